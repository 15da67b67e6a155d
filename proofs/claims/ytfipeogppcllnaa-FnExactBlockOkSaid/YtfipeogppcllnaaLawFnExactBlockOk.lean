-- Written by wip/tools/mk.py (this session's program).
import Derived.Test.YtfipeogppcllnaaRows
import Derived.Test.YtfipeogppcllnaaFitFnExactBlockOk
import Derived.Test.YtfipeogppcllnaaPureFnExactBlockOk
import Derived.Test.YtfipeogppcllnaaWOwn
import Derived.WalkKit
import Derived.ProofKit
import Derived.OpenShut
import Derived.ShutString
import Derived.ChangeOld
import Derived.Below
import Derived.SizedLaws
namespace Go.Proofs.Ytfipeogppcllnaa.fnExactBlockOk
open Go.ChangeShapes Go.WideShapes Go.ChangeAt Go.RowKit Go.Proofs.YtfipeogppcllnaaW.PrintWords Go.Proofs.YtfipeogppcllnaaW.Own Go.Proofs.Ytfipeogppcllnaa.QFnExactBlockOk
open Go.ChangeMaps (open_string shut_string)
set_option linter.unusedVariables false
theorem own : ownKnob Try.prog.godebug = none := by kernel_rfl
theorem laidOut : laidOutB Try.prog = true := by kernel_rfl
theorem cells9 : Try.prog.cellsOf 9 = 1 := by kernel_rfl
theorem cells140 : Try.prog.cellsOf 140 = 2 := by kernel_rfl
theorem opens140 : Opens Try.prog k140 140 Fit140 := by
  intro H enc w base spare held fuel cs x h
  obtain ⟨xs, n, _, _, hl, hlen, hf⟩ := DataW.trod_struct Try.underlying140 h
  have hl' : cs.length = 2 := hl.trans cells140
  have hlen' : xs.length = 2 := hlen
  obtain ⟨b0, h0, g0⟩ := opens_field (opens_string Try.underlying9) cells9 (hf 0 _ rfl) (by omega)
  obtain ⟨b1, h1, g1⟩ := opens_field (opens_string Try.underlying9) cells9 (hf 1 _ rfl) (by omega)
  exact ⟨⟨b0, b1⟩, ⟨(cs.drop 0).take 1, cs.drop 1, cut_first 1, h0, (by rw [← cut_last hl' (o := 1) (s := 1) rfl]; exact h1)⟩, g0, g1⟩
theorem cells3 : Try.prog.cellsOf 3 = 1 := by kernel_rfl
theorem cells144 : Try.prog.cellsOf 144 = 2 := by kernel_rfl
theorem opens144 : Opens Try.prog k144 144 Fit144 := by
  intro H enc w base spare held fuel cs x h
  obtain ⟨xs, n, _, _, hl, hlen, hf⟩ := DataW.trod_struct Try.underlying144 h
  have hl' : cs.length = 2 := hl.trans cells144
  have hlen' : xs.length = 2 := hlen
  obtain ⟨b0, h0, g0⟩ := opens_field (opens_int Try.underlying3) cells3 (hf 0 _ rfl) (by omega)
  obtain ⟨b1, h1, g1⟩ := opens_field (opens_int Try.underlying3) cells3 (hf 1 _ rfl) (by omega)
  exact ⟨⟨b0, b1⟩, ⟨(cs.drop 0).take 1, cs.drop 1, cut_first 1, h0, (by rw [← cut_last hl' (o := 1) (s := 1) rfl]; exact h1)⟩, g0, g1⟩
theorem cells78 : Try.prog.cellsOf 78 = 1 := by kernel_rfl
theorem cells103 : Try.prog.cellsOf 103 = 1 := by kernel_rfl
theorem cells105 : Try.prog.cellsOf 105 = 2 := by kernel_rfl
theorem opens105 : Opens Try.prog k105 105 Fit105 := by
  intro H enc w base spare held fuel cs x h
  obtain ⟨xs, n, _, _, hl, hlen, hf⟩ := DataW.trod_struct Try.underlying105 h
  have hl' : cs.length = 2 := hl.trans cells105
  have hlen' : xs.length = 2 := hlen
  obtain ⟨b0, h0, g0⟩ := opens_field (opens_slice Try.underlying78 cells140 opens140) cells78 (hf 0 _ rfl) (by omega)
  obtain ⟨b1, h1, g1⟩ := opens_field (opens_slice Try.underlying103 cells144 opens144) cells103 (hf 1 _ rfl) (by omega)
  exact ⟨⟨b0, b1⟩, ⟨(cs.drop 0).take 1, cs.drop 1, cut_first 1, h0, (by rw [← cut_last hl' (o := 1) (s := 1) rfl]; exact h1)⟩, g0, g1⟩
theorem cells35 : Try.prog.cellsOf 35 = 1 := by kernel_rfl
theorem cells47 : Try.prog.cellsOf 47 = 3 := by kernel_rfl
theorem opens47 : Opens Try.prog k47 47 Fit47 := by
  intro H enc w base spare held fuel cs x h
  obtain ⟨xs, n, _, _, hl, hlen, hf⟩ := DataW.trod_struct Try.underlying47 h
  have hl' : cs.length = 3 := hl.trans cells47
  have hlen' : xs.length = 3 := hlen
  obtain ⟨b0, h0, g0⟩ := opens_field (opens_int Try.underlying3) cells3 (hf 0 _ rfl) (by omega)
  obtain ⟨b1, h1, g1⟩ := opens_field (opens_int Try.underlying3) cells3 (hf 1 _ rfl) (by omega)
  obtain ⟨b2, h2, g2⟩ := opens_field (opens_slice Try.underlying35 cells105 opens105) cells35 (hf 2 _ rfl) (by omega)
  exact ⟨⟨b0, b1, b2⟩, ⟨(cs.drop 0).take 1, cs.drop 1, cut_first 1, h0, ⟨(cs.drop 1).take 1, cs.drop 2, cut_next 1 1, h1, (by rw [← cut_last hl' (o := 2) (s := 1) rfl]; exact h2)⟩⟩, g0, g1, g2⟩
set_option maxRecDepth 100000 in
theorem lifted (os : Os) (started : os.Started) (H : Type) (enc : TypeId × Value → H) :
    ReturnsInHanded {} Try.checked os 5 .any (Rows.fnExactBlockOkSpec.pre6 enc Try.prog Try.f5 Rows.fnExactBlockOkRow.domain false) (Rows.fnExactBlockOkSpec.post enc Try.prog Try.f5 false true false false) := by
  refine returnsInHanded_of_change_sized (C := Try.checked) own started (by kernel_rfl) Try.func5
    (ChangeSpec.witness6 (enc := enc) (C := Try.checked) false ⟨#[], #[.agg #[.int .i64 0, .int .i64 0, .slice none 0 0]], []⟩ 8 (by kernel_rfl) (by kernel_rfl) (by kernel_rfl) (by kernel_rfl)) ?_
  intro W base args ds gs before hval0 hW hcnd hsz0 _
  have hval : ∀ (j : Nat) t v, Try.f5.params[j]? = some t → args[j]? = some v → Value.okWide Try.prog W .any base t v := hval0
  have hW' := hW
  obtain ⟨p, q, hA0, hV, rfl, hfz, hnd⟩ := hW
  have hA : DataW.TrodAll enc Try.prog W 0 (fun _ => true) true Try.f5.params.toList args.toList ds p := hA0
  rw [Try.params5] at hA hval
  obtain ⟨v0, vs0, d0, ds0, p0, q0, hargs, rfl, rfl, h0, r0⟩ := trodAll_cons hA
  obtain ⟨rfl, rfl, rfl⟩ := trodAll_nil r0
  obtain rfl : args = #[v0] := by cases args; simp_all
  obtain ⟨rfl, rfl⟩ := trodVars_none hV
  have k0_ := h0
  have lt0 : ∀ x ∈ p0, x.block < W.heap.size := by obtain ⟨m, hm⟩ := k0_; exact DataW.trod_lt m _ _ _ hm
  obtain ⟨cs0, rfl, _⟩ : ∃ cs : Array Value, v0 = .agg cs ∧ True := by
    have z := (hval 0 47 v0 rfl rfl)
    simp only [Value.okWide, Try.underlying47] at z
    obtain ⟨cs, hz, _⟩ := z
    exact ⟨cs, hz, trivial⟩
  obtain ⟨a0, hk0, w0⟩ := arg_struct opens47 h0
  obtain ⟨A0_2, c0_2, e0, hc0_2, hr0_2⟩ := k47_open hk0
  obtain rfl : cs0 = #[.int .i64 a0.f0, .int .i64 a0.f1, .slice A0_2 a0.f2.length c0_2] := by cases cs0; simpa using e0
  clear hA0 hval0 hsz0
  obtain ⟨k, hp⟩ := Pure.FnExactBlockOk a0 w0
  refine (laws_FnExactBlockOk.calls k a0.f0 a0.f1 _ _ a0.f2 true W hr0_2 hc0_2 rfl hp).mono fun e W' ⟨he, hd⟩ => ?_
  have bel : Below W.heap.size W W' := hd
  subst he
  exact ⟨_, rfl, _, _, _, [], _, [], hW', trodAll_mk1 (shut_bool Try.underlying4 _), (trodAll_cons_mk (Below.trod laidOut (by kernel_rfl) (of_decide_eq_true (by kernel_rfl)) k0_ bel lt0) trodAll_mk0), rfl, bel.frame _, fun h => by cases h⟩
theorem over : Rows.fnExactBlockOkRow.holds Try.pinned (OpenSpec.ofChange Rows.fnExactBlockOkSpec) :=
  OpenClaim.holds_of_wide 5 Try.f5 rfl rfl rfl rfl rfl rfl rfl ⟨rfl, rfl, rfl, rfl, rfl⟩ rfl rfl rfl rfl rfl (by kernel_rfl) Try.func5 (by kernel_rfl)
    (of_decide_eq_true (by kernel_rfl)) (by unfold Func.isWrapper; first | (rw [if_pos (by decide +kernel)]; kernel_rfl) | (rw [if_neg (by decide +kernel)]; exact ⟨rfl, rfl⟩))
    (fun os started H enc _ => lifted os started H enc)
theorem proved : Rows.FnExactBlockOkSaid := over
#print axioms proved
end Go.Proofs.Ytfipeogppcllnaa.fnExactBlockOk
namespace Go.Proofs.Ytfipeogppcllnaa
/-- The row, under a short name, for the claim. -/
theorem fnExactBlockOk_holds : Rows.FnExactBlockOkSaid := fnExactBlockOk.proved
end Go.Proofs.Ytfipeogppcllnaa
