-- Written by wip/tools/mk.py (this session's program).
import Derived.Test.YtfipeogppcllnaaQFnExactRecOkx8
import Derived.Test.YtfipeogppcllnaaWOwn
namespace Go.Proofs.Ytfipeogppcllnaa.QFnExactRecOk
open Go.RowKit Go.Proofs.YtfipeogppcllnaaW.PrintWords Go.Proofs.YtfipeogppcllnaaW.PrintLast Go.Proofs.YtfipeogppcllnaaW.Own
def Fit140 (x : S140) : Prop := FitStr x.f0 ∧ FitStr x.f1
instance : Inhabited S140 := ⟨z140⟩
def Fit80 (x : S80) : Prop := (FitList Fit140) x.f0 ∧ (FitInt .i64) x.f1 ∧ (FitInt .i64) x.f2
instance : Inhabited S80 := ⟨z80⟩
def Fit83 (x : S83) : Prop := (FitInt .i64) x.f0 ∧ FitStr x.f1 ∧ FitStr x.f2
instance : Inhabited S83 := ⟨z83⟩
def Fit25 (x : S25) : Prop := (FitInt .i64) x.f0 ∧ (FitList Fit80) x.f1 ∧ (FitList Fit83) x.f2 ∧ (FitInt .i64) x.f3 ∧ (FitInt .i64) x.f4
instance : Inhabited S25 := ⟨z25⟩
/-- The pure statement. -/
def laws_FnExactRecOk.Pure : Prop := ∀ (a0 : S25), Fit25 a0 → ∃ k, laws_FnExactRecOk.f k a0.f0 a0.f1 a0.f2 a0.f3 a0.f4 = some true
end Go.Proofs.Ytfipeogppcllnaa.QFnExactRecOk
