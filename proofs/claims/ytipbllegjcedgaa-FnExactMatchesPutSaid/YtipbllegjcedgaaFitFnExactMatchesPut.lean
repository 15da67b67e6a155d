-- Written by wip/tools/mk.py (this session's program).
import Derived.Test.YtipbllegjcedgaaQFnExactMatchesPutx4
import Derived.Test.YtipbllegjcedgaaWOwn
namespace Go.Proofs.Ytipbllegjcedgaa.QFnExactMatchesPut
open Go.RowKit Go.Proofs.YtipbllegjcedgaaW.PrintWords Go.Proofs.YtipbllegjcedgaaW.PrintLast Go.Proofs.YtipbllegjcedgaaW.Own
def Fit75 (x : S75) : Prop := (FitInt .i64) x.f0 ∧ FitStr x.f1 ∧ FitStr x.f2
instance : Inhabited S75 := ⟨z75⟩
/-- The pure statement. -/
def laws_FnExactMatchesPut.Pure : Prop := ∀ (l0 : List (S75)), (FitList Fit75) l0 → ∃ k, laws_FnExactMatchesPut.f k l0 = some true
end Go.Proofs.Ytipbllegjcedgaa.QFnExactMatchesPut
