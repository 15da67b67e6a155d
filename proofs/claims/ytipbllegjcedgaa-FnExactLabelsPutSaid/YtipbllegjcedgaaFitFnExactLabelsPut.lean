-- Written by wip/tools/mk.py (this session's program).
import Derived.Test.YtipbllegjcedgaaQFnExactLabelsPutx3
import Derived.Test.YtipbllegjcedgaaWOwn
namespace Go.Proofs.Ytipbllegjcedgaa.QFnExactLabelsPut
open Go.RowKit Go.Proofs.YtipbllegjcedgaaW.PrintWords Go.Proofs.YtipbllegjcedgaaW.PrintLast Go.Proofs.YtipbllegjcedgaaW.Own
def Fit62 (x : S62) : Prop := FitStr x.f0 ∧ FitStr x.f1
instance : Inhabited S62 := ⟨z62⟩
/-- The pure statement. -/
def laws_FnExactLabelsPut.Pure : Prop := ∀ (l0 : List (S62)), (FitList Fit62) l0 → ∃ k, laws_FnExactLabelsPut.f k l0 = some true
end Go.Proofs.Ytipbllegjcedgaa.QFnExactLabelsPut
