-- Written by wip/tools/mk.py (this session's program).
import Derived.Test.YtfipeogppcllnaaQFnExactBlockOkx8
import Derived.Test.YtfipeogppcllnaaWOwn
namespace Go.Proofs.Ytfipeogppcllnaa.QFnExactBlockOk
open Go.RowKit Go.Proofs.YtfipeogppcllnaaW.PrintWords Go.Proofs.YtfipeogppcllnaaW.PrintLast Go.Proofs.YtfipeogppcllnaaW.Own
def Fit140 (x : S140) : Prop := FitStr x.f0 ∧ FitStr x.f1
instance : Inhabited S140 := ⟨z140⟩
def Fit144 (x : S144) : Prop := (FitInt .i64) x.f0 ∧ (FitInt .i64) x.f1
instance : Inhabited S144 := ⟨z144⟩
def Fit105 (x : S105) : Prop := (FitList Fit140) x.f0 ∧ (FitList Fit144) x.f1
instance : Inhabited S105 := ⟨z105⟩
def Fit47 (x : S47) : Prop := (FitInt .i64) x.f0 ∧ (FitInt .i64) x.f1 ∧ (FitList Fit105) x.f2
instance : Inhabited S47 := ⟨z47⟩
/-- The pure statement. -/
def laws_FnExactBlockOk.Pure : Prop := ∀ (a0 : S47), Fit47 a0 → ∃ k, laws_FnExactBlockOk.f k a0.f0 a0.f1 a0.f2 = some true
end Go.Proofs.Ytfipeogppcllnaa.QFnExactBlockOk
