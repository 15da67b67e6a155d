-- Written by wip/tools/mk.py (this session's program).
import Derived.Test.YtipbllegjcedgaaRows
import Derived.Test.YtipbllegjcedgaaFitFnExactMatchesPut
import Derived.Test.YtipbllegjcedgaaPureFnExactMatchesPut
import Derived.Test.YtipbllegjcedgaaWOwn
import Derived.WalkKit
import Derived.ProofKit
import Derived.OpenShut
import Derived.ShutString
import Derived.ChangeOld
import Derived.Below
import Derived.SizedLaws
namespace Go.Proofs.Ytipbllegjcedgaa.fnExactMatchesPut
open Go.ChangeShapes Go.WideShapes Go.ChangeAt Go.RowKit Go.Proofs.YtipbllegjcedgaaW.PrintWords Go.Proofs.YtipbllegjcedgaaW.Own Go.Proofs.Ytipbllegjcedgaa.QFnExactMatchesPut
open Go.ChangeMaps (open_string shut_string)
set_option linter.unusedVariables false
theorem own : ownKnob Try.prog.godebug = none := by kernel_rfl
theorem laidOut : laidOutB Try.prog = true := by kernel_rfl
theorem cells3 : Try.prog.cellsOf 3 = 1 := by kernel_rfl
theorem cells9 : Try.prog.cellsOf 9 = 1 := by kernel_rfl
theorem cells75 : Try.prog.cellsOf 75 = 3 := by kernel_rfl
theorem opens75 : Opens Try.prog k75 75 Fit75 := by
  intro H enc w base spare held fuel cs x h
  obtain ⟨xs, n, _, _, hl, hlen, hf⟩ := DataW.trod_struct Try.underlying75 h
  have hl' : cs.length = 3 := hl.trans cells75
  have hlen' : xs.length = 3 := hlen
  obtain ⟨b0, h0, g0⟩ := opens_field (opens_int Try.underlying3) cells3 (hf 0 _ rfl) (by omega)
  obtain ⟨b1, h1, g1⟩ := opens_field (opens_string Try.underlying9) cells9 (hf 1 _ rfl) (by omega)
  obtain ⟨b2, h2, g2⟩ := opens_field (opens_string Try.underlying9) cells9 (hf 2 _ rfl) (by omega)
  exact ⟨⟨b0, b1, b2⟩, ⟨(cs.drop 0).take 1, cs.drop 1, cut_first 1, h0, ⟨(cs.drop 1).take 1, cs.drop 2, cut_next 1 1, h1, (by rw [← cut_last hl' (o := 2) (s := 1) rfl]; exact h2)⟩⟩, g0, g1, g2⟩
set_option maxRecDepth 100000 in
theorem lifted (os : Os) (started : os.Started) (H : Type) (enc : TypeId × Value → H) :
    ReturnsInHanded {} Try.checked os 6 .any (Rows.fnExactMatchesPutSpec.pre6 enc Try.prog Try.f6 Rows.fnExactMatchesPutRow.domain false) (Rows.fnExactMatchesPutSpec.post enc Try.prog Try.f6 false true false false) := by
  refine returnsInHanded_of_change_sized (C := Try.checked) own started (by kernel_rfl) Try.func6
    (ChangeSpec.witness6 (enc := enc) (C := Try.checked) false ⟨#[], #[.slice none 0 0], []⟩ 8 (by kernel_rfl) (by kernel_rfl) (by kernel_rfl) (by kernel_rfl)) ?_
  intro W base args ds gs before hval0 hW hcnd hsz0 _
  have hval : ∀ (j : Nat) t v, Try.f6.params[j]? = some t → args[j]? = some v → Value.okWide Try.prog W .any base t v := hval0
  have hW' := hW
  obtain ⟨p, q, hA0, hV, rfl, hfz, hnd⟩ := hW
  have hA : DataW.TrodAll enc Try.prog W 0 (fun _ => true) true Try.f6.params.toList args.toList ds p := hA0
  rw [Try.params6] at hA hval
  obtain ⟨v0, vs0, d0, ds0, p0, q0, hargs, rfl, rfl, h0, r0⟩ := trodAll_cons hA
  obtain ⟨rfl, rfl, rfl⟩ := trodAll_nil r0
  obtain rfl : args = #[v0] := by cases args; simp_all
  obtain ⟨rfl, rfl⟩ := trodVars_none hV
  obtain ⟨A0, len0, cap0, rfl⟩ := okWide_slice Try.underlying36 (hval 0 36 v0 rfl rfl)
  have k0_ := h0
  have lt0 : ∀ x ∈ p0, x.block < W.heap.size := by obtain ⟨m, hm⟩ := k0_; exact DataW.trod_lt m _ _ _ hm
  obtain ⟨l0, rfl, hc0, hr0, w0⟩ := arg_slice (opens_slice Try.underlying36 cells75 opens75) h0
  clear hA0 hval0 hsz0
  obtain ⟨k, hp⟩ := Pure.FnExactMatchesPut l0 w0
  refine (laws_FnExactMatchesPut.calls k _ _ l0 true W hr0 hc0 rfl hp).mono fun e W' ⟨he, hd⟩ => ?_
  have bel : Below W.heap.size W W' := hd
  subst he
  exact ⟨_, rfl, _, _, _, [], _, [], hW', trodAll_mk1 (shut_bool Try.underlying4 _), (trodAll_cons_mk (Below.trod laidOut (by kernel_rfl) (of_decide_eq_true (by kernel_rfl)) k0_ bel lt0) trodAll_mk0), rfl, bel.frame _, fun h => by cases h⟩
theorem over : Rows.fnExactMatchesPutRow.holds Try.pinned (OpenSpec.ofChange Rows.fnExactMatchesPutSpec) :=
  OpenClaim.holds_of_wide 6 Try.f6 rfl rfl rfl rfl rfl rfl rfl ⟨rfl, rfl, rfl, rfl, rfl⟩ rfl rfl rfl rfl rfl (by kernel_rfl) Try.func6 (by kernel_rfl)
    (of_decide_eq_true (by kernel_rfl)) (by unfold Func.isWrapper; first | (rw [if_pos (by decide +kernel)]; kernel_rfl) | (rw [if_neg (by decide +kernel)]; exact ⟨rfl, rfl⟩))
    (fun os started H enc _ => lifted os started H enc)
theorem proved : Rows.FnExactMatchesPutSaid := over
#print axioms proved
end Go.Proofs.Ytipbllegjcedgaa.fnExactMatchesPut
namespace Go.Proofs.Ytipbllegjcedgaa
/-- The row, under a short name, for the claim. -/
theorem fnExactMatchesPut_holds : Rows.FnExactMatchesPutSaid := fnExactMatchesPut.proved
end Go.Proofs.Ytipbllegjcedgaa
