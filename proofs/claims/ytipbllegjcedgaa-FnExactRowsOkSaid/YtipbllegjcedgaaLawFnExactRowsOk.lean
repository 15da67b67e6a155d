-- Written by wip/tools/mk.py (this session's program).
import Derived.Test.YtipbllegjcedgaaRows
import Derived.Test.YtipbllegjcedgaaFitFnExactRowsOk
import Derived.Test.YtipbllegjcedgaaPureFnExactRowsOk
import Derived.Test.YtipbllegjcedgaaWOwn
import Derived.WalkKit
import Derived.ProofKit
import Derived.OpenShut
import Derived.ShutString
import Derived.ChangeOld
import Derived.Below
import Derived.SizedLaws
namespace Go.Proofs.Ytipbllegjcedgaa.fnExactRowsOk
open Go.ChangeShapes Go.WideShapes Go.ChangeAt Go.RowKit Go.Proofs.YtipbllegjcedgaaW.PrintWords Go.Proofs.YtipbllegjcedgaaW.Own Go.Proofs.Ytipbllegjcedgaa.QFnExactRowsOk
open Go.ChangeMaps (open_string shut_string)
set_option linter.unusedVariables false
theorem own : ownKnob Try.prog.godebug = none := by kernel_rfl
theorem laidOut : laidOutB Try.prog = true := by kernel_rfl
theorem cells9 : Try.prog.cellsOf 9 = 1 := by kernel_rfl
theorem cells62 : Try.prog.cellsOf 62 = 2 := by kernel_rfl
theorem opens62 : Opens Try.prog k62 62 Fit62 := by
  intro H enc w base spare held fuel cs x h
  obtain ⟨xs, n, _, _, hl, hlen, hf⟩ := DataW.trod_struct Try.underlying62 h
  have hl' : cs.length = 2 := hl.trans cells62
  have hlen' : xs.length = 2 := hlen
  obtain ⟨b0, h0, g0⟩ := opens_field (opens_string Try.underlying9) cells9 (hf 0 _ rfl) (by omega)
  obtain ⟨b1, h1, g1⟩ := opens_field (opens_string Try.underlying9) cells9 (hf 1 _ rfl) (by omega)
  exact ⟨⟨b0, b1⟩, ⟨(cs.drop 0).take 1, cs.drop 1, cut_first 1, h0, (by rw [← cut_last hl' (o := 1) (s := 1) rfl]; exact h1)⟩, g0, g1⟩
theorem cells3 : Try.prog.cellsOf 3 = 1 := by kernel_rfl
theorem cells131 : Try.prog.cellsOf 131 = 2 := by kernel_rfl
theorem opens131 : Opens Try.prog k131 131 Fit131 := by
  intro H enc w base spare held fuel cs x h
  obtain ⟨xs, n, _, _, hl, hlen, hf⟩ := DataW.trod_struct Try.underlying131 h
  have hl' : cs.length = 2 := hl.trans cells131
  have hlen' : xs.length = 2 := hlen
  obtain ⟨b0, h0, g0⟩ := opens_field (opens_int Try.underlying3) cells3 (hf 0 _ rfl) (by omega)
  obtain ⟨b1, h1, g1⟩ := opens_field (opens_int Try.underlying3) cells3 (hf 1 _ rfl) (by omega)
  exact ⟨⟨b0, b1⟩, ⟨(cs.drop 0).take 1, cs.drop 1, cut_first 1, h0, (by rw [← cut_last hl' (o := 1) (s := 1) rfl]; exact h1)⟩, g0, g1⟩
theorem cells22 : Try.prog.cellsOf 22 = 1 := by kernel_rfl
theorem cells80 : Try.prog.cellsOf 80 = 1 := by kernel_rfl
theorem cells82 : Try.prog.cellsOf 82 = 2 := by kernel_rfl
theorem opens82 : Opens Try.prog k82 82 Fit82 := by
  intro H enc w base spare held fuel cs x h
  obtain ⟨xs, n, _, _, hl, hlen, hf⟩ := DataW.trod_struct Try.underlying82 h
  have hl' : cs.length = 2 := hl.trans cells82
  have hlen' : xs.length = 2 := hlen
  obtain ⟨b0, h0, g0⟩ := opens_field (opens_slice Try.underlying22 cells62 opens62) cells22 (hf 0 _ rfl) (by omega)
  obtain ⟨b1, h1, g1⟩ := opens_field (opens_slice Try.underlying80 cells131 opens131) cells80 (hf 1 _ rfl) (by omega)
  exact ⟨⟨b0, b1⟩, ⟨(cs.drop 0).take 1, cs.drop 1, cut_first 1, h0, (by rw [← cut_last hl' (o := 1) (s := 1) rfl]; exact h1)⟩, g0, g1⟩
set_option maxRecDepth 100000 in
theorem lifted (os : Os) (started : os.Started) (H : Type) (enc : TypeId × Value → H) :
    ReturnsInHanded {} Try.checked os 10 .any (Rows.fnExactRowsOkSpec.pre6 enc Try.prog Try.f10 Rows.fnExactRowsOkRow.domain false) (Rows.fnExactRowsOkSpec.post enc Try.prog Try.f10 false true false false) := by
  refine returnsInHanded_of_change_sized (C := Try.checked) own started (by kernel_rfl) Try.func10
    (ChangeSpec.witness6 (enc := enc) (C := Try.checked) false ⟨#[], #[.slice none 0 0], []⟩ 8 (by kernel_rfl) (by kernel_rfl) (by kernel_rfl) (by kernel_rfl)) ?_
  intro W base args ds gs before hval0 hW hcnd hsz0 _
  have hval : ∀ (j : Nat) t v, Try.f10.params[j]? = some t → args[j]? = some v → Value.okWide Try.prog W .any base t v := hval0
  have hW' := hW
  obtain ⟨p, q, hA0, hV, rfl, hfz, hnd⟩ := hW
  have hA : DataW.TrodAll enc Try.prog W 0 (fun _ => true) true Try.f10.params.toList args.toList ds p := hA0
  rw [Try.params10] at hA hval
  obtain ⟨v0, vs0, d0, ds0, p0, q0, hargs, rfl, rfl, h0, r0⟩ := trodAll_cons hA
  obtain ⟨rfl, rfl, rfl⟩ := trodAll_nil r0
  obtain rfl : args = #[v0] := by cases args; simp_all
  obtain ⟨rfl, rfl⟩ := trodVars_none hV
  obtain ⟨A0, len0, cap0, rfl⟩ := okWide_slice Try.underlying54 (hval 0 54 v0 rfl rfl)
  have k0_ := h0
  have lt0 : ∀ x ∈ p0, x.block < W.heap.size := by obtain ⟨m, hm⟩ := k0_; exact DataW.trod_lt m _ _ _ hm
  obtain ⟨l0, rfl, hc0, hr0, w0⟩ := arg_slice (opens_slice Try.underlying54 cells82 opens82) h0
  clear hA0 hval0 hsz0
  obtain ⟨k, hp⟩ := Pure.FnExactRowsOk l0 w0
  refine (laws_FnExactRowsOk.calls k _ _ l0 true W hr0 hc0 rfl hp).mono fun e W' ⟨he, hd⟩ => ?_
  have bel : Below W.heap.size W W' := hd
  subst he
  exact ⟨_, rfl, _, _, _, [], _, [], hW', trodAll_mk1 (shut_bool Try.underlying4 _), (trodAll_cons_mk (Below.trod laidOut (by kernel_rfl) (of_decide_eq_true (by kernel_rfl)) k0_ bel lt0) trodAll_mk0), rfl, bel.frame _, fun h => by cases h⟩
theorem over : Rows.fnExactRowsOkRow.holds Try.pinned (OpenSpec.ofChange Rows.fnExactRowsOkSpec) :=
  OpenClaim.holds_of_wide 10 Try.f10 rfl rfl rfl rfl rfl rfl rfl ⟨rfl, rfl, rfl, rfl, rfl⟩ rfl rfl rfl rfl rfl (by kernel_rfl) Try.func10 (by kernel_rfl)
    (of_decide_eq_true (by kernel_rfl)) (by unfold Func.isWrapper; first | (rw [if_pos (by decide +kernel)]; kernel_rfl) | (rw [if_neg (by decide +kernel)]; exact ⟨rfl, rfl⟩))
    (fun os started H enc _ => lifted os started H enc)
theorem proved : Rows.FnExactRowsOkSaid := over
#print axioms proved
end Go.Proofs.Ytipbllegjcedgaa.fnExactRowsOk
namespace Go.Proofs.Ytipbllegjcedgaa
/-- The row, under a short name, for the claim. -/
theorem fnExactRowsOk_holds : Rows.FnExactRowsOkSaid := fnExactRowsOk.proved
end Go.Proofs.Ytipbllegjcedgaa
