/- Zag of the program is Zag of the reference, at every int; no condition. -/
import Derived.Test.YtidapbdlomjgcaaPFnExactZagx1
namespace Go.Proofs.Ytidapbdlomjgcaa.Pure
open Go.RowKit Go.Proofs.Ytidapbdlomjgcaa.PFnExactZag Go.Proofs.YtidapbdlomjgcaaW.PrintWords Go.Proofs.YtidapbdlomjgcaaW.PrintLast

theorem spec_Zag_eq (a : Int) : spec_Zag.f a = some (if 0 ≤ a ∧ a ≤ 2147483646 then (if Int.tmod a 2 = 1 then wrap64 (Int.tdiv (wrap64 (-(wrap64 (a + 1)))) 2) else wrap64 (Int.tdiv a 2)) else 0) := by
  have e : wrap64 2147483646 = 2147483646 := by unfold wrap64; omega
  unfold spec_Zag.f spec_l1Zig.f spec_l1In.f
  by_cases h0 : 0 ≤ a <;> by_cases h1 : a ≤ 2147483646 <;> by_cases h2 : Int.tmod a 2 = 1 <;> simp [h0, h1, h2, e]

theorem impl_Zag_eq (k : Nat) (a : Int) : impl_Zag.f (k + 1) a = some (if 0 ≤ a ∧ a ≤ 2147483646 then (if Int.tmod a 2 = 1 then wrap64 (Int.tdiv (wrap64 (-(wrap64 (a + 1)))) 2) else wrap64 (Int.tdiv a 2)) else 0) := by
  unfold impl_Zag.f
  simp only [impl_Zag.j0]
  by_cases h0 : 0 ≤ a
  · have g0 : ¬ a < 0 := by omega
    by_cases h1 : a ≤ 2147483646
    · have g1 : ¬ 2147483646 < a := by omega
      by_cases h2 : Int.tmod a 2 = 1 <;> simp [h0, h1, h2, g0, g1]
    · have g1 : a > 2147483646 := by omega
      simp [h1, g0]
  · have g0 : a < 0 := by omega
    simp [h0, g0]

theorem FnExactZag : laws_FnExactZag.Pure := by
  intro a _
  refine ⟨1, ?_⟩
  unfold laws_FnExactZag.f
  rw [spec_Zag_eq, impl_Zag_eq 0]
  simp

end Go.Proofs.Ytidapbdlomjgcaa.Pure
