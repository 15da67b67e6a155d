-- Written by wip/tools/mk.py (this session's program).
import Derived.Test.YtibkljplegpcdaaQFnExactMatchesOkx2
import Derived.Test.YtibkljplegpcdaaWOwn
namespace Go.Proofs.Ytibkljplegpcdaa.QFnExactMatchesOk
open Go.RowKit Go.Proofs.YtibkljplegpcdaaW.PrintWords Go.Proofs.YtibkljplegpcdaaW.PrintLast Go.Proofs.YtibkljplegpcdaaW.Own
def Fit89 (x : S89) : Prop := (FitInt .i64) x.f0 ∧ FitStr x.f1 ∧ FitStr x.f2
instance : Inhabited S89 := ⟨z89⟩
/-- The pure statement. -/
def laws_FnExactMatchesOk.Pure : Prop := ∀ (l0 : List (S89)), (FitList Fit89) l0 → ∃ k, laws_FnExactMatchesOk.f k l0 = some true
end Go.Proofs.Ytibkljplegpcdaa.QFnExactMatchesOk
