-- Written by wip/tools/mk.py (this session's program).
import Derived.Test.YtbeckinldcbhcaaQFnExactSamplesCutx3
import Derived.Test.YtbeckinldcbhcaaWOwn
namespace Go.Proofs.Ytbeckinldcbhcaa.QFnExactSamplesCut
open Go.RowKit Go.Proofs.YtbeckinldcbhcaaW.PrintWords Go.Proofs.YtbeckinldcbhcaaW.PrintLast Go.Proofs.YtbeckinldcbhcaaW.Own
def Fit82 (x : S82) : Prop := (FitInt .i64) x.f0 ∧ (FitInt .i64) x.f1
instance : Inhabited S82 := ⟨z82⟩
/-- The pure statement. -/
def laws_FnExactSamplesCut.Pure : Prop := ∀ (l0 : List (S82)) (a1 : Int) (a2 : Int), (FitList Fit82) l0 → (FitInt .i64) a1 → (FitInt .i64) a2 → ∃ k, laws_FnExactSamplesCut.f k l0 a1 a2 = some true
end Go.Proofs.Ytbeckinldcbhcaa.QFnExactSamplesCut
