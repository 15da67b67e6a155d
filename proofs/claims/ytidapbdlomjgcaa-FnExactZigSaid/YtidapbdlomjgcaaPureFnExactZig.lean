/- Zig of the program is Zig of the reference, at every int; no condition. -/
import Derived.Test.YtidapbdlomjgcaaPFnExactZigx1
namespace Go.Proofs.Ytidapbdlomjgcaa.Pure
open Go.RowKit Go.Proofs.Ytidapbdlomjgcaa.PFnExactZig Go.Proofs.YtidapbdlomjgcaaW.PrintWords Go.Proofs.YtidapbdlomjgcaaW.PrintLast

theorem spec_Zig_eq (a : Int) : spec_Zig.f a = some (if -1073741823 ≤ a ∧ a ≤ 1073741823 then (if a < 0 then wrap64 ((wrap64 ((-2) * a)) - 1) else wrap64 (2 * a)) else 0) := by
  have e : wrap64 (-1073741823) = -1073741823 := by unfold wrap64; omega
  unfold spec_Zig.f spec_l1Zig.f spec_l1In.f
  by_cases h0 : -1073741823 ≤ a <;> by_cases h1 : a ≤ 1073741823 <;> by_cases h2 : a < 0 <;> simp [h0, h1, h2, e]

theorem impl_Zig_eq (k : Nat) (a : Int) : impl_Zig.f (k + 1) a = some (if -1073741823 ≤ a ∧ a ≤ 1073741823 then (if a < 0 then wrap64 ((wrap64 ((-2) * a)) - 1) else wrap64 (2 * a)) else 0) := by
  unfold impl_Zig.f
  simp only [impl_Zig.j0]
  by_cases h0 : -1073741823 ≤ a
  · have g0 : ¬ a < -1073741823 := by omega
    by_cases h1 : a ≤ 1073741823
    · have g1 : ¬ 1073741823 < a := by omega
      by_cases h2 : a < 0 <;> simp [h0, h1, h2, g0, g1]
    · have g1 : a > 1073741823 := by omega
      simp [h1, g0]
  · have g0 : a < -1073741823 := by omega
    simp [h0, g0]

theorem FnExactZig : laws_FnExactZig.Pure := by
  intro a _
  refine ⟨1, ?_⟩
  unfold laws_FnExactZig.f
  rw [spec_Zig_eq, impl_Zig_eq 0]
  simp

end Go.Proofs.Ytidapbdlomjgcaa.Pure
