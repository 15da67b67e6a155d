-- Written by wip/tools/mk.py (this session's program).
import Derived.Test.YtfipeogppcllnaaRows
import Derived.Test.YtfipeogppcllnaaFitFnExactRecOk
import Derived.Test.YtfipeogppcllnaaPureFnExactRecOk
import Derived.Test.YtfipeogppcllnaaWOwn
import Derived.WalkKit
import Derived.ProofKit
import Derived.OpenShut
import Derived.ShutString
import Derived.ChangeOld
import Derived.Below
import Derived.SizedLaws
namespace Go.Proofs.Ytfipeogppcllnaa.fnExactRecOk
open Go.ChangeShapes Go.WideShapes Go.ChangeAt Go.RowKit Go.Proofs.YtfipeogppcllnaaW.PrintWords Go.Proofs.YtfipeogppcllnaaW.Own Go.Proofs.Ytfipeogppcllnaa.QFnExactRecOk
open Go.ChangeMaps (open_string shut_string)
set_option linter.unusedVariables false
theorem own : ownKnob Try.prog.godebug = none := by kernel_rfl
theorem laidOut : laidOutB Try.prog = true := by kernel_rfl
theorem cells9 : Try.prog.cellsOf 9 = 1 := by kernel_rfl
theorem cells140 : Try.prog.cellsOf 140 = 2 := by kernel_rfl
theorem opens140 : Opens Try.prog k140 140 Fit140 := by
  intro H enc w base spare held fuel cs x h
  obtain ⟨xs, n, _, _, hl, hlen, hf⟩ := DataW.trod_struct Try.underlying140 h
  have hl' : cs.length = 2 := hl.trans cells140
  have hlen' : xs.length = 2 := hlen
  obtain ⟨b0, h0, g0⟩ := opens_field (opens_string Try.underlying9) cells9 (hf 0 _ rfl) (by omega)
  obtain ⟨b1, h1, g1⟩ := opens_field (opens_string Try.underlying9) cells9 (hf 1 _ rfl) (by omega)
  exact ⟨⟨b0, b1⟩, ⟨(cs.drop 0).take 1, cs.drop 1, cut_first 1, h0, (by rw [← cut_last hl' (o := 1) (s := 1) rfl]; exact h1)⟩, g0, g1⟩
theorem cells78 : Try.prog.cellsOf 78 = 1 := by kernel_rfl
theorem cells3 : Try.prog.cellsOf 3 = 1 := by kernel_rfl
theorem cells80 : Try.prog.cellsOf 80 = 3 := by kernel_rfl
theorem opens80 : Opens Try.prog k80 80 Fit80 := by
  intro H enc w base spare held fuel cs x h
  obtain ⟨xs, n, _, _, hl, hlen, hf⟩ := DataW.trod_struct Try.underlying80 h
  have hl' : cs.length = 3 := hl.trans cells80
  have hlen' : xs.length = 3 := hlen
  obtain ⟨b0, h0, g0⟩ := opens_field (opens_slice Try.underlying78 cells140 opens140) cells78 (hf 0 _ rfl) (by omega)
  obtain ⟨b1, h1, g1⟩ := opens_field (opens_int Try.underlying3) cells3 (hf 1 _ rfl) (by omega)
  obtain ⟨b2, h2, g2⟩ := opens_field (opens_int Try.underlying3) cells3 (hf 2 _ rfl) (by omega)
  exact ⟨⟨b0, b1, b2⟩, ⟨(cs.drop 0).take 1, cs.drop 1, cut_first 1, h0, ⟨(cs.drop 1).take 1, cs.drop 2, cut_next 1 1, h1, (by rw [← cut_last hl' (o := 2) (s := 1) rfl]; exact h2)⟩⟩, g0, g1, g2⟩
theorem cells83 : Try.prog.cellsOf 83 = 3 := by kernel_rfl
theorem opens83 : Opens Try.prog k83 83 Fit83 := by
  intro H enc w base spare held fuel cs x h
  obtain ⟨xs, n, _, _, hl, hlen, hf⟩ := DataW.trod_struct Try.underlying83 h
  have hl' : cs.length = 3 := hl.trans cells83
  have hlen' : xs.length = 3 := hlen
  obtain ⟨b0, h0, g0⟩ := opens_field (opens_int Try.underlying3) cells3 (hf 0 _ rfl) (by omega)
  obtain ⟨b1, h1, g1⟩ := opens_field (opens_string Try.underlying9) cells9 (hf 1 _ rfl) (by omega)
  obtain ⟨b2, h2, g2⟩ := opens_field (opens_string Try.underlying9) cells9 (hf 2 _ rfl) (by omega)
  exact ⟨⟨b0, b1, b2⟩, ⟨(cs.drop 0).take 1, cs.drop 1, cut_first 1, h0, ⟨(cs.drop 1).take 1, cs.drop 2, cut_next 1 1, h1, (by rw [← cut_last hl' (o := 2) (s := 1) rfl]; exact h2)⟩⟩, g0, g1, g2⟩
theorem cells22 : Try.prog.cellsOf 22 = 1 := by kernel_rfl
theorem cells23 : Try.prog.cellsOf 23 = 1 := by kernel_rfl
theorem cells25 : Try.prog.cellsOf 25 = 5 := by kernel_rfl
theorem opens25 : Opens Try.prog k25 25 Fit25 := by
  intro H enc w base spare held fuel cs x h
  obtain ⟨xs, n, _, _, hl, hlen, hf⟩ := DataW.trod_struct Try.underlying25 h
  have hl' : cs.length = 5 := hl.trans cells25
  have hlen' : xs.length = 5 := hlen
  obtain ⟨b0, h0, g0⟩ := opens_field (opens_int Try.underlying3) cells3 (hf 0 _ rfl) (by omega)
  obtain ⟨b1, h1, g1⟩ := opens_field (opens_slice Try.underlying22 cells80 opens80) cells22 (hf 1 _ rfl) (by omega)
  obtain ⟨b2, h2, g2⟩ := opens_field (opens_slice Try.underlying23 cells83 opens83) cells23 (hf 2 _ rfl) (by omega)
  obtain ⟨b3, h3, g3⟩ := opens_field (opens_int Try.underlying3) cells3 (hf 3 _ rfl) (by omega)
  obtain ⟨b4, h4, g4⟩ := opens_field (opens_int Try.underlying3) cells3 (hf 4 _ rfl) (by omega)
  exact ⟨⟨b0, b1, b2, b3, b4⟩, ⟨(cs.drop 0).take 1, cs.drop 1, cut_first 1, h0, ⟨(cs.drop 1).take 1, cs.drop 2, cut_next 1 1, h1, ⟨(cs.drop 2).take 1, cs.drop 3, cut_next 2 1, h2, ⟨(cs.drop 3).take 1, cs.drop 4, cut_next 3 1, h3, (by rw [← cut_last hl' (o := 4) (s := 1) rfl]; exact h4)⟩⟩⟩⟩, g0, g1, g2, g3, g4⟩
set_option maxRecDepth 100000 in
theorem lifted (os : Os) (started : os.Started) (H : Type) (enc : TypeId × Value → H) :
    ReturnsInHanded {} Try.checked os 3 .any (Rows.fnExactRecOkSpec.pre6 enc Try.prog Try.f3 Rows.fnExactRecOkRow.domain false) (Rows.fnExactRecOkSpec.post enc Try.prog Try.f3 false true false false) := by
  refine returnsInHanded_of_change_sized (C := Try.checked) own started (by kernel_rfl) Try.func3
    (ChangeSpec.witness6 (enc := enc) (C := Try.checked) false ⟨#[], #[.agg #[.int .i64 0, .slice none 0 0, .slice none 0 0, .int .i64 0, .int .i64 0]], []⟩ 8 (by kernel_rfl) (by kernel_rfl) (by kernel_rfl) (by kernel_rfl)) ?_
  intro W base args ds gs before hval0 hW hcnd hsz0 _
  have hval : ∀ (j : Nat) t v, Try.f3.params[j]? = some t → args[j]? = some v → Value.okWide Try.prog W .any base t v := hval0
  have hW' := hW
  obtain ⟨p, q, hA0, hV, rfl, hfz, hnd⟩ := hW
  have hA : DataW.TrodAll enc Try.prog W 0 (fun _ => true) true Try.f3.params.toList args.toList ds p := hA0
  rw [Try.params3] at hA hval
  obtain ⟨v0, vs0, d0, ds0, p0, q0, hargs, rfl, rfl, h0, r0⟩ := trodAll_cons hA
  obtain ⟨rfl, rfl, rfl⟩ := trodAll_nil r0
  obtain rfl : args = #[v0] := by cases args; simp_all
  obtain ⟨rfl, rfl⟩ := trodVars_none hV
  have k0_ := h0
  have lt0 : ∀ x ∈ p0, x.block < W.heap.size := by obtain ⟨m, hm⟩ := k0_; exact DataW.trod_lt m _ _ _ hm
  obtain ⟨cs0, rfl, _⟩ : ∃ cs : Array Value, v0 = .agg cs ∧ True := by
    have z := (hval 0 25 v0 rfl rfl)
    simp only [Value.okWide, Try.underlying25] at z
    obtain ⟨cs, hz, _⟩ := z
    exact ⟨cs, hz, trivial⟩
  obtain ⟨a0, hk0, w0⟩ := arg_struct opens25 h0
  obtain ⟨A0_1, c0_1, A0_2, c0_2, e0, hc0_1, hr0_1, hc0_2, hr0_2⟩ := k25_open hk0
  obtain rfl : cs0 = #[.int .i64 a0.f0, .slice A0_1 a0.f1.length c0_1, .slice A0_2 a0.f2.length c0_2, .int .i64 a0.f3, .int .i64 a0.f4] := by cases cs0; simpa using e0
  clear hA0 hval0 hsz0
  obtain ⟨k, hp⟩ := Pure.FnExactRecOk a0 w0
  refine (laws_FnExactRecOk.calls k a0.f0 _ _ a0.f1 _ _ a0.f2 a0.f3 a0.f4 true W hr0_1 hc0_1 hr0_2 hc0_2 rfl hp).mono fun e W' ⟨he, hd⟩ => ?_
  have bel : Below W.heap.size W W' := hd
  subst he
  exact ⟨_, rfl, _, _, _, [], _, [], hW', trodAll_mk1 (shut_bool Try.underlying4 _), (trodAll_cons_mk (Below.trod laidOut (by kernel_rfl) (of_decide_eq_true (by kernel_rfl)) k0_ bel lt0) trodAll_mk0), rfl, bel.frame _, fun h => by cases h⟩
theorem over : Rows.fnExactRecOkRow.holds Try.pinned (OpenSpec.ofChange Rows.fnExactRecOkSpec) :=
  OpenClaim.holds_of_wide 3 Try.f3 rfl rfl rfl rfl rfl rfl rfl ⟨rfl, rfl, rfl, rfl, rfl⟩ rfl rfl rfl rfl rfl (by kernel_rfl) Try.func3 (by kernel_rfl)
    (of_decide_eq_true (by kernel_rfl)) (by unfold Func.isWrapper; first | (rw [if_pos (by decide +kernel)]; kernel_rfl) | (rw [if_neg (by decide +kernel)]; exact ⟨rfl, rfl⟩))
    (fun os started H enc _ => lifted os started H enc)
theorem proved : Rows.FnExactRecOkSaid := over
#print axioms proved
end Go.Proofs.Ytfipeogppcllnaa.fnExactRecOk
namespace Go.Proofs.Ytfipeogppcllnaa
/-- The row, under a short name, for the claim. -/
theorem fnExactRecOk_holds : Rows.FnExactRecOkSaid := fnExactRecOk.proved
end Go.Proofs.Ytfipeogppcllnaa
