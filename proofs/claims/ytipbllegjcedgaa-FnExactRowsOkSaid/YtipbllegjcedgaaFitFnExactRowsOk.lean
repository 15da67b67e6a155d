-- Written by wip/tools/mk.py (this session's program).
import Derived.Test.YtipbllegjcedgaaQFnExactRowsOkx6
import Derived.Test.YtipbllegjcedgaaWOwn
namespace Go.Proofs.Ytipbllegjcedgaa.QFnExactRowsOk
open Go.RowKit Go.Proofs.YtipbllegjcedgaaW.PrintWords Go.Proofs.YtipbllegjcedgaaW.PrintLast Go.Proofs.YtipbllegjcedgaaW.Own
def Fit62 (x : S62) : Prop := FitStr x.f0 ∧ FitStr x.f1
instance : Inhabited S62 := ⟨z62⟩
def Fit131 (x : S131) : Prop := (FitInt .i64) x.f0 ∧ (FitInt .i64) x.f1
instance : Inhabited S131 := ⟨z131⟩
def Fit82 (x : S82) : Prop := (FitList Fit62) x.f0 ∧ (FitList Fit131) x.f1
instance : Inhabited S82 := ⟨z82⟩
/-- The pure statement. -/
def laws_FnExactRowsOk.Pure : Prop := ∀ (l0 : List (S82)), (FitList Fit82) l0 → ∃ k, laws_FnExactRowsOk.f k l0 = some true
end Go.Proofs.Ytipbllegjcedgaa.QFnExactRowsOk
