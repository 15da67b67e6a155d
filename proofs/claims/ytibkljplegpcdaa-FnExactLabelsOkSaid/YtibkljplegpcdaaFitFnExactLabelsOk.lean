-- Written by wip/tools/mk.py (this session's program).
import Derived.Test.YtibkljplegpcdaaQFnExactLabelsOkx2
import Derived.Test.YtibkljplegpcdaaWOwn
namespace Go.Proofs.Ytibkljplegpcdaa.QFnExactLabelsOk
open Go.RowKit Go.Proofs.YtibkljplegpcdaaW.PrintWords Go.Proofs.YtibkljplegpcdaaW.PrintLast Go.Proofs.YtibkljplegpcdaaW.Own
def Fit80 (x : S80) : Prop := FitStr x.f0 ∧ FitStr x.f1
instance : Inhabited S80 := ⟨z80⟩
/-- The pure statement. -/
def laws_FnExactLabelsOk.Pure : Prop := ∀ (l0 : List (S80)), (FitList Fit80) l0 → ∃ k, laws_FnExactLabelsOk.f k l0 = some true
end Go.Proofs.Ytibkljplegpcdaa.QFnExactLabelsOk
