-- Written by wip/tools/mk.py (this session's program).
import Derived.Test.YtibkljplegpcdaaQFnExactDiskOkx3
import Derived.Test.YtibkljplegpcdaaWOwn
namespace Go.Proofs.Ytibkljplegpcdaa.QFnExactDiskOk
open Go.RowKit Go.Proofs.YtibkljplegpcdaaW.PrintWords Go.Proofs.YtibkljplegpcdaaW.PrintLast Go.Proofs.YtibkljplegpcdaaW.Own
def Fit120 (x : S120) : Prop := (FitInt .i64) x.f0 ∧ FitStr x.f1
instance : Inhabited S120 := ⟨z120⟩
def Fit49 (x : S49) : Prop := FitStr x.f0 ∧ FitStr x.f1 ∧ (FitList Fit120) x.f2
instance : Inhabited S49 := ⟨z49⟩
/-- The pure statement. -/
def laws_FnExactDiskOk.Pure : Prop := ∀ (a0 : S49), Fit49 a0 → ∃ k, laws_FnExactDiskOk.f k a0.f0 a0.f1 a0.f2 = some true
end Go.Proofs.Ytibkljplegpcdaa.QFnExactDiskOk
