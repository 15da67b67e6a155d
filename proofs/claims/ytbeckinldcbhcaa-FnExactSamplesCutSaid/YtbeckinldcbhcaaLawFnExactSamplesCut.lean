-- Written by wip/tools/mk.py (this session's program).
import Derived.Test.YtbeckinldcbhcaaRows
import Derived.Test.YtbeckinldcbhcaaFitFnExactSamplesCut
import Derived.Test.YtbeckinldcbhcaaPureFnExactSamplesCut
import Derived.Test.YtbeckinldcbhcaaWOwn
import Derived.WalkKit
import Derived.ProofKit
import Derived.OpenShut
import Derived.ShutString
import Derived.ChangeOld
import Derived.Below
import Derived.SizedLaws
namespace Go.Proofs.Ytbeckinldcbhcaa.fnExactSamplesCut
open Go.ChangeShapes Go.WideShapes Go.ChangeAt Go.RowKit Go.Proofs.YtbeckinldcbhcaaW.PrintWords Go.Proofs.YtbeckinldcbhcaaW.Own Go.Proofs.Ytbeckinldcbhcaa.QFnExactSamplesCut
open Go.ChangeMaps (open_string shut_string)
set_option linter.unusedVariables false
theorem own : ownKnob Try.prog.godebug = none := by kernel_rfl
theorem laidOut : laidOutB Try.prog = true := by kernel_rfl
theorem cells3 : Try.prog.cellsOf 3 = 1 := by kernel_rfl
theorem cells82 : Try.prog.cellsOf 82 = 2 := by kernel_rfl
theorem opens82 : Opens Try.prog k82 82 Fit82 := by
  intro H enc w base spare held fuel cs x h
  obtain ⟨xs, n, _, _, hl, hlen, hf⟩ := DataW.trod_struct Try.underlying82 h
  have hl' : cs.length = 2 := hl.trans cells82
  have hlen' : xs.length = 2 := hlen
  obtain ⟨b0, h0, g0⟩ := opens_field (opens_int Try.underlying3) cells3 (hf 0 _ rfl) (by omega)
  obtain ⟨b1, h1, g1⟩ := opens_field (opens_int Try.underlying3) cells3 (hf 1 _ rfl) (by omega)
  exact ⟨⟨b0, b1⟩, ⟨(cs.drop 0).take 1, cs.drop 1, cut_first 1, h0, (by rw [← cut_last hl' (o := 1) (s := 1) rfl]; exact h1)⟩, g0, g1⟩
set_option maxRecDepth 100000 in
theorem lifted (os : Os) (started : os.Started) (H : Type) (enc : TypeId × Value → H) :
    ReturnsInHanded {} Try.checked os 6 .any (Rows.fnExactSamplesCutSpec.pre6 enc Try.prog Try.f6 Rows.fnExactSamplesCutRow.domain false) (Rows.fnExactSamplesCutSpec.post enc Try.prog Try.f6 false true false false) := by
  refine returnsInHanded_of_change_sized (C := Try.checked) own started (by kernel_rfl) Try.func6
    (ChangeSpec.witness6 (enc := enc) (C := Try.checked) false ⟨#[], #[.slice none 0 0, .int .i64 0, .int .i64 0], []⟩ 8 (by kernel_rfl) (by kernel_rfl) (by kernel_rfl) (by kernel_rfl)) ?_
  intro W base args ds gs before hval0 hW hcnd hsz0 _
  have hval : ∀ (j : Nat) t v, Try.f6.params[j]? = some t → args[j]? = some v → Value.okWide Try.prog W .any base t v := hval0
  have hW' := hW
  obtain ⟨p, q, hA0, hV, rfl, hfz, hnd⟩ := hW
  have hA : DataW.TrodAll enc Try.prog W 0 (fun _ => true) true Try.f6.params.toList args.toList ds p := hA0
  rw [Try.params6] at hA hval
  obtain ⟨v0, vs0, d0, ds0, p0, q0, hargs, rfl, rfl, h0, r0⟩ := trodAll_cons hA
  obtain ⟨v1, vs1, d1, ds1, p1, q1, rfl, rfl, rfl, h1, r1⟩ := trodAll_cons r0
  obtain ⟨v2, vs2, d2, ds2, p2, q2, rfl, rfl, rfl, h2, r2⟩ := trodAll_cons r1
  obtain ⟨rfl, rfl, rfl⟩ := trodAll_nil r2
  obtain rfl : args = #[v0, v1, v2] := by cases args; simp_all
  obtain ⟨rfl, rfl⟩ := trodVars_none hV
  obtain ⟨A0, len0, cap0, rfl⟩ := okWide_slice Try.underlying41 (hval 0 41 v0 rfl rfl)
  have k0_ := h0
  have lt0 : ∀ x ∈ p0, x.block < W.heap.size := by obtain ⟨m, hm⟩ := k0_; exact DataW.trod_lt m _ _ _ hm
  obtain ⟨l0, rfl, hc0, hr0, w0⟩ := arg_slice (opens_slice Try.underlying41 cells82 opens82) h0
  obtain ⟨a1, rfl, rfl, rfl, w1⟩ := open_int Try.underlying3 (hval 1 3 v1 rfl rfl) h1
  obtain ⟨a2, rfl, rfl, rfl, w2⟩ := open_int Try.underlying3 (hval 2 3 v2 rfl rfl) h2
  clear hA0 hval0 hsz0
  obtain ⟨k, hp⟩ := Pure.FnExactSamplesCut l0 a1 a2 w0 w1 w2
  refine (laws_FnExactSamplesCut.calls k _ _ l0 a1 a2 true W hr0 hc0 rfl hp).mono fun e W' ⟨he, hd⟩ => ?_
  have bel : Below W.heap.size W W' := hd
  subst he
  exact ⟨_, rfl, _, _, _, [], _, [], hW', trodAll_mk1 (shut_bool Try.underlying4 _), (trodAll_cons_mk (Below.trod laidOut (by kernel_rfl) (of_decide_eq_true (by kernel_rfl)) k0_ bel lt0) (trodAll_cons_mk (shut_int Try.underlying3 w1) (trodAll_cons_mk (shut_int Try.underlying3 w2) trodAll_mk0))), rfl, bel.frame _, fun h => by cases h⟩
theorem over : Rows.fnExactSamplesCutRow.holds Try.pinned (OpenSpec.ofChange Rows.fnExactSamplesCutSpec) :=
  OpenClaim.holds_of_wide 6 Try.f6 rfl rfl rfl rfl rfl rfl rfl ⟨rfl, rfl, rfl, rfl, rfl⟩ rfl rfl rfl rfl rfl (by kernel_rfl) Try.func6 (by kernel_rfl)
    (of_decide_eq_true (by kernel_rfl)) (by unfold Func.isWrapper; first | (rw [if_pos (by decide +kernel)]; kernel_rfl) | (rw [if_neg (by decide +kernel)]; exact ⟨rfl, rfl⟩))
    (fun os started H enc _ => lifted os started H enc)
theorem proved : Rows.FnExactSamplesCutSaid := over
#print axioms proved
end Go.Proofs.Ytbeckinldcbhcaa.fnExactSamplesCut
namespace Go.Proofs.Ytbeckinldcbhcaa
/-- The row, under a short name, for the claim. -/
theorem fnExactSamplesCut_holds : Rows.FnExactSamplesCutSaid := fnExactSamplesCut.proved
end Go.Proofs.Ytbeckinldcbhcaa
