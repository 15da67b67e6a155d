-- Written by wip/tools/mk.py (this session's program).
import Derived.Test.YtipbllegjcedgaaQFnExactMatchesLetx5
import Derived.Test.YtipbllegjcedgaaWOwn
namespace Go.Proofs.Ytipbllegjcedgaa.QFnExactMatchesLet
open Go.RowKit Go.Proofs.YtipbllegjcedgaaW.PrintWords Go.Proofs.YtipbllegjcedgaaW.PrintLast Go.Proofs.YtipbllegjcedgaaW.Own
def Fit75 (x : S75) : Prop := (FitInt .i64) x.f0 ∧ FitStr x.f1 ∧ FitStr x.f2
instance : Inhabited S75 := ⟨z75⟩
def Fit62 (x : S62) : Prop := FitStr x.f0 ∧ FitStr x.f1
instance : Inhabited S62 := ⟨z62⟩
/-- The pure statement. -/
def laws_FnExactMatchesLet.Pure : Prop := ∀ (l0 : List (S75)) (l1 : List (S62)), (FitList Fit75) l0 → (FitList Fit62) l1 → ∃ k, laws_FnExactMatchesLet.f k l0 l1 = some true
end Go.Proofs.Ytipbllegjcedgaa.QFnExactMatchesLet
