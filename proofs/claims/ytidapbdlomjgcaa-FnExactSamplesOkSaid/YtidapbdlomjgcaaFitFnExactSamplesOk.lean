-- Written by wip/tools/mk.py (this session's program).
import Derived.Test.YtidapbdlomjgcaaQFnExactSamplesOkx4
import Derived.Test.YtidapbdlomjgcaaWOwn
namespace Go.Proofs.Ytidapbdlomjgcaa.QFnExactSamplesOk
open Go.RowKit Go.Proofs.YtidapbdlomjgcaaW.PrintWords Go.Proofs.YtidapbdlomjgcaaW.PrintLast Go.Proofs.YtidapbdlomjgcaaW.Own
def Fit63 (x : S63) : Prop := (FitInt .i64) x.f0 ∧ (FitInt .i64) x.f1
instance : Inhabited S63 := ⟨z63⟩
/-- The pure statement. -/
def laws_FnExactSamplesOk.Pure : Prop := ∀ (l0 : List (S63)), (FitList Fit63) l0 → ∃ k, laws_FnExactSamplesOk.f k l0 = some true
end Go.Proofs.Ytidapbdlomjgcaa.QFnExactSamplesOk
