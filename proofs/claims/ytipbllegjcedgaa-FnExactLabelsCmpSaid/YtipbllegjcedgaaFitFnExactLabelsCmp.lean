-- Written by wip/tools/mk.py (this session's program).
import Derived.Test.YtipbllegjcedgaaQFnExactLabelsCmpx3
import Derived.Test.YtipbllegjcedgaaWOwn
namespace Go.Proofs.Ytipbllegjcedgaa.QFnExactLabelsCmp
open Go.RowKit Go.Proofs.YtipbllegjcedgaaW.PrintWords Go.Proofs.YtipbllegjcedgaaW.PrintLast Go.Proofs.YtipbllegjcedgaaW.Own
def Fit62 (x : S62) : Prop := FitStr x.f0 ∧ FitStr x.f1
instance : Inhabited S62 := ⟨z62⟩
/-- The pure statement. -/
def laws_FnExactLabelsCmp.Pure : Prop := ∀ (l0 : List (S62)) (l1 : List (S62)), (FitList Fit62) l0 → (FitList Fit62) l1 → ∃ k, laws_FnExactLabelsCmp.f k l0 l1 = some true
end Go.Proofs.Ytipbllegjcedgaa.QFnExactLabelsCmp
