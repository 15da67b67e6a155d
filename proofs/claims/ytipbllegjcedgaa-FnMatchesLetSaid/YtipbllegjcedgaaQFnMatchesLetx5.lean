-- Written by wip/tools/mk.py (this session's program, which runs the kit's print): functions, and proofs that the machine's calls do what they say.
import Derived.Test.YtipbllegjcedgaaQFnMatchesLetx0
import Derived.Test.YtipbllegjcedgaaQFnMatchesLetx1
import Derived.Test.YtipbllegjcedgaaQFnMatchesLetx3
import Derived.Test.YtipbllegjcedgaaQFnMatchesLetx4
namespace Go.Proofs.Ytipbllegjcedgaa.QFnMatchesLet
open Go.RowKit Go.Proofs.YtipbllegjcedgaaW.PrintWords Go.Proofs.YtipbllegjcedgaaW.PrintLast Go.Proofs.YtipbllegjcedgaaW.PrintMore
attribute [local go_sem] IntKind.wrap_u8 max2_int min2_int max_two min_two max_three min_three max_four min_four   -- for this text's walks alone
set_option linter.unusedVariables false
set_option linter.unusedSimpArgs false

/-! ### spec_MatchesLet: function 28 -/
def spec_MatchesLet.f (k : Nat) (l0 : List (S48)) (l1 : List (S52)) : Option (Bool) := (spec_MatchesOk.f k l0).bind fun t245 => (if t245 = true then ((spec_LabelsOk.f l1).bind fun t246 => (if t246 = true then ((spec_l3Lets.f k l0 l1).bind fun t247 => (some t247)) else (some false))) else (some false))
theorem spec_MatchesLet.mono : ∀ a0 a1 k, LeO (spec_MatchesLet.f k a0 a1) (spec_MatchesLet.f (k + 1) a0 a1) := by
  intro a0 a1 k
  unfold spec_MatchesLet.f
  repeat' first
      | (with_reducible exact spec_MatchesOk.mono _ _)
      | (with_reducible exact spec_l3Lets.mono _ _ _)
      | (with_reducible exact LeO.refl _)
      | (with_reducible exact LeO.none _)
      | (with_reducible refine LeO.ite ?_ ?_)
      | (with_reducible refine LeO.bind ?_ (fun _ => ?_))
      | exact spec_MatchesOk.mono _ _
      | exact spec_l3Lets.mono _ _ _
      | exact LeO.none _
      | refine LeO.ite ?_ ?_
      | refine LeO.bind ?_ (fun _ => ?_)
set_option maxHeartbeats 8000000 in
set_option maxRecDepth 100000 in
theorem spec_MatchesLet.calls (k : Nat) (A0 : Option Addr) (c0 : Nat) (l0 : List (S48)) (A1 : Option Addr) (c1 : Nat) (l1 : List (S52)) (r : Bool) (w : World) (hr0 : Kd.C k48 w A0 l0.length l0) (hc0 : l0.length ≤ c0) (hr1 : Kd.C k52 w A1 l1.length l1) (hc1 : l1.length ≤ c1) (h : spec_MatchesLet.f k l0 l1 = some r) :
    Calls Try.prog 28 #[.slice A0 l0.length c0, .slice A1 l1.length c1] w fun e w' => e = .returned (.bool r) ∧ Below w.heap.size w w' := by
  have HR0 := Aside0.mk hr0
  have HC0 := Aside0.mk hc0
  clear hr0 hc0
  have HR1 := Aside0.mk hr1
  have HC1 := Aside0.mk hc1
  clear hr1 hc1
  have HB := Aside0.mk (Below.refl w.heap.size w)
  have H : ((spec_MatchesOk.f k l0).bind fun t245 => (if t245 = true then ((spec_LabelsOk.f l1).bind fun t246 => (if t246 = true then ((spec_l3Lets.f k l0 l1).bind fun t247 => (some t247)) else (some false))) else (some false))) = some r := h
  clear h
  replace H := Option.bind_eq_some_iff.mp H
  obtain ⟨t245, A30, H⟩ := H
  replace H : (if t245 = true then ((spec_LabelsOk.f l1).bind fun t246 => (if t246 = true then ((spec_l3Lets.f k l0 l1).bind fun t247 => (some t247)) else (some false))) else (some false)) = some r := H
  have A3 := Aside0.mk A30
  clear A30
  by_cases c4 : t245 = true
  · subst c4
    have H1 : ((spec_LabelsOk.f l1).bind fun t246 => (if t246 = true then ((spec_l3Lets.f k l0 l1).bind fun t247 => (some t247)) else (some false))) = some r := by rw [if_pos rfl] at H; exact H
    clear H
    have H := H1
    clear H1
    replace H := Option.bind_eq_some_iff.mp H
    obtain ⟨t246, A50, H⟩ := H
    replace H : (if t246 = true then ((spec_l3Lets.f k l0 l1).bind fun t247 => (some t247)) else (some false)) = some r := H
    have A5 := Aside0.mk A50
    clear A50
    by_cases c6 : t246 = true
    · subst c6
      have H1 : ((spec_l3Lets.f k l0 l1).bind fun t247 => (some t247)) = some r := by rw [if_pos rfl] at H; exact H
      clear H
      have H := H1
      clear H1
      replace H := Option.bind_eq_some_iff.mp H
      obtain ⟨t247, A70, H⟩ := H
      replace H : (some t247) = some r := H
      have A7 := Aside0.mk A70
      clear A70
      obtain rfl := Option.some.inj H
      go_enter Try.func28, Try.ntmps28
      go_wp2_with (first | ((with_reducible refine gate_callee (f := 29) rfl ?_); refine goesL_ (some 6) rfl rfl Try.func29 (by kernel_rfl) rfl #[.slice A0 l0.length c0] rfl (by (try simp only [List.map_toArray, List.map_cons, List.map_nil]); first | done | rfl | (simp only [List.length_drop, List.length_take]; rfl)) ?_; (with_reducible refine (spec_MatchesOk.calls k _ _ l0 true _ ?side1 ?side2 A3.out).mono ?_); (case side1 => repeat (first | exact HR0.out | (with_reducible refine Kd.C_alloc ?_ _) | (with_reducible refine Kd.C_drewN ?_ _) | (with_reducible refine Kd.C_drew ?_))); (case side2 => exact HC0.out); rintro e w' ⟨rfl, ⟨nd, rfl⟩⟩; refine ⟨_, rfl, ?_⟩) | (go_at_call 19; (with_reducible refine (spec_LabelsOk.calls _ _ l1 true _ ?side1 ?side2 A5.out).mono ?_); (case side1 => repeat (first | exact HR1.out | (with_reducible refine Kd.C_alloc ?_ _) | (with_reducible refine Kd.C_drewN ?_ _) | (with_reducible refine Kd.C_drew ?_))); (case side2 => exact HC1.out); rintro e w' ⟨rfl, ⟨nd, rfl⟩⟩) | (go_at_call 56; (with_reducible refine (spec_l3Lets.calls k _ _ l0 _ _ l1 t247 _ ?side1 ?side2 ?side3 ?side4 A7.out).mono ?_); (case side1 => repeat (first | exact HR0.out | (with_reducible refine Kd.C_alloc ?_ _) | (with_reducible refine Kd.C_drewN ?_ _) | (with_reducible refine Kd.C_drew ?_))); (case side2 => exact HC0.out); (case side3 => repeat (first | exact HR1.out | (with_reducible refine Kd.C_alloc ?_ _) | (with_reducible refine Kd.C_drewN ?_ _) | (with_reducible refine Kd.C_drew ?_))); (case side4 => exact HC1.out); rintro e w8 ⟨rfl, hb⟩; have n0_ := Aside0.mk (below_step (by repeat (first | (with_reducible first | exact HB.out | apply below_alloc | apply pw_below_drewN | apply below_drew1) | exact HB.out)) hb); clear HB; have HB := n0_; clear n0_; (try clear hb); (try clear hb2); (try clear hk); (try clear hi)))
      go_ret
      exact ⟨by first | rfl | (simp [errW_none, errW_some] <;> rfl) | (simp [*, errW_none, errW_some] <;> rfl), by repeat (first | (with_reducible first | exact HB.out | apply below_alloc | apply pw_below_drewN | apply below_drew1) | exact HB.out)⟩
    · replace c6 := Bool.eq_false_iff.mpr c6
      subst c6
      have H1 : (some false) = some r := by rw [if_neg (show ¬ (false = true) by decide)] at H; exact H
      clear H
      have H := H1
      clear H1
      obtain rfl := Option.some.inj H
      go_enter Try.func28, Try.ntmps28
      go_wp2_with (first | ((with_reducible refine gate_callee (f := 29) rfl ?_); refine goesL_ (some 6) rfl rfl Try.func29 (by kernel_rfl) rfl #[.slice A0 l0.length c0] rfl (by (try simp only [List.map_toArray, List.map_cons, List.map_nil]); first | done | rfl | (simp only [List.length_drop, List.length_take]; rfl)) ?_; (with_reducible refine (spec_MatchesOk.calls k _ _ l0 true _ ?side1 ?side2 A3.out).mono ?_); (case side1 => repeat (first | exact HR0.out | (with_reducible refine Kd.C_alloc ?_ _) | (with_reducible refine Kd.C_drewN ?_ _) | (with_reducible refine Kd.C_drew ?_))); (case side2 => exact HC0.out); rintro e w' ⟨rfl, ⟨nd, rfl⟩⟩; refine ⟨_, rfl, ?_⟩) | (go_at_call 19; (with_reducible refine (spec_LabelsOk.calls _ _ l1 false _ ?side1 ?side2 A5.out).mono ?_); (case side1 => repeat (first | exact HR1.out | (with_reducible refine Kd.C_alloc ?_ _) | (with_reducible refine Kd.C_drewN ?_ _) | (with_reducible refine Kd.C_drew ?_))); (case side2 => exact HC1.out); rintro e w' ⟨rfl, ⟨nd, rfl⟩⟩))
      go_ret
      exact ⟨by first | rfl | (simp [errW_none, errW_some] <;> rfl) | (simp [*, errW_none, errW_some] <;> rfl), by repeat (first | (with_reducible first | exact HB.out | apply below_alloc | apply pw_below_drewN | apply below_drew1) | exact HB.out)⟩
  · replace c4 := Bool.eq_false_iff.mpr c4
    subst c4
    have H1 : (some false) = some r := by rw [if_neg (show ¬ (false = true) by decide)] at H; exact H
    clear H
    have H := H1
    clear H1
    obtain rfl := Option.some.inj H
    go_enter Try.func28, Try.ntmps28
    go_wp2_with (first | ((with_reducible refine gate_callee (f := 29) rfl ?_); refine goesL_ (some 6) rfl rfl Try.func29 (by kernel_rfl) rfl #[.slice A0 l0.length c0] rfl (by (try simp only [List.map_toArray, List.map_cons, List.map_nil]); first | done | rfl | (simp only [List.length_drop, List.length_take]; rfl)) ?_; (with_reducible refine (spec_MatchesOk.calls k _ _ l0 false _ ?side1 ?side2 A3.out).mono ?_); (case side1 => repeat (first | exact HR0.out | (with_reducible refine Kd.C_alloc ?_ _) | (with_reducible refine Kd.C_drewN ?_ _) | (with_reducible refine Kd.C_drew ?_))); (case side2 => exact HC0.out); rintro e w' ⟨rfl, ⟨nd, rfl⟩⟩; refine ⟨_, rfl, ?_⟩))
    go_ret
    exact ⟨by first | rfl | (simp [errW_none, errW_some] <;> rfl) | (simp [*, errW_none, errW_some] <;> rfl), by repeat (first | (with_reducible first | exact HB.out | apply below_alloc | apply pw_below_drewN | apply below_drew1) | exact HB.out)⟩

/-! ### laws_FnMatchesLet: function 7 -/
mutual
def laws_FnMatchesLet.j0 : Nat → List (S48) → List (S52) → Bool → Bool → Option (Bool)
  | 0, _, _, _, _ => none
  | k + 1, x3, x4, x5, x35 => if x35 = true then ((spec_MatchesLet.f k x3 x4).bind fun t258 => (some (x5 == t258))) else (laws_FnMatchesLet.l0 k x3 x4 x5 true 0)
def laws_FnMatchesLet.l0 : Nat → List (S48) → List (S52) → Bool → Bool → Int → Option (Bool)
  | 0, _, _, _, _, _ => none
  | k + 1, x3, x4, x5, x6, x7 => if x7 < (x3.length : Int) then (if 0 ≤ x7 then ((impl_MatchesLet.f (([(⟨(rd_T48 x3 x7).f0, (rd_T48 x3 x7).f1, (rd_T48 x3 x7).f2⟩ : S48)] : List (S48))) x4).bind fun t265 => (if x6 = true then ((some (([0, 2, 1, 4, 3] : List Int) : List Int)).bind fun y266 => (if 0 ≤ ((rd_T48 x3 x7).f0) then (if ((rd_T48 x3 x7).f0) < (y266.length : Int) then ((impl_MatchesLet.f (([(⟨rd y266 ((rd_T48 x3 x7).f0), (rd_T48 x3 x7).f1, (rd_T48 x3 x7).f2⟩ : S48)] : List (S48))) x4).bind fun t273 => (if (t273 == t265) = true then (some false) else (laws_FnMatchesLet.l0 k x3 x4 x5 t265 (wrap64 (x7 + 1))))) else (none)) else (none))) else ((some (([0, 2, 1, 4, 3] : List Int) : List Int)).bind fun y274 => (if 0 ≤ ((rd_T48 x3 x7).f0) then (if ((rd_T48 x3 x7).f0) < (y274.length : Int) then ((impl_MatchesLet.f (([(⟨rd y274 ((rd_T48 x3 x7).f0), (rd_T48 x3 x7).f1, (rd_T48 x3 x7).f2⟩ : S48)] : List (S48))) x4).bind fun t281 => (if (t281 == t265) = true then (some false) else (laws_FnMatchesLet.l0 k x3 x4 x5 false (wrap64 (x7 + 1))))) else (none)) else (none))))) else (none)) else (if (x5 == x6) = true then ((impl_MatchesLet.f ([] : List (S48)) x4).bind fun t259 => (some t259)) else (some false))
end
def laws_FnMatchesLet.f (k : Nat) (l0 : List Int) : Option (Bool) := if (l0.length : Int) > 1048576 then (some true) else ((spec_DrawMatchesLet.f k l0).bind fun bt248 => ((impl_MatchesLet.f bt248.1 bt248.2).bind fun t254 => ((spec_MatchesLet.f k bt248.1 bt248.2).bind fun t255 => (if (t254 != t255) = true then (laws_FnMatchesLet.j0 k bt248.1 bt248.2 t254 true) else ((spec_MatchesOk.f k bt248.1).bind fun t256 => (if t256 = true then ((spec_LabelsOk.f bt248.2).bind fun t257 => (laws_FnMatchesLet.j0 k bt248.1 bt248.2 t254 (!t257))) else (laws_FnMatchesLet.j0 k bt248.1 bt248.2 t254 true)))))))
theorem laws_FnMatchesLet.mono_l : ∀ k, (∀ y0 y1 y2 y3, LeO (laws_FnMatchesLet.j0 k y0 y1 y2 y3) (laws_FnMatchesLet.j0 (k + 1) y0 y1 y2 y3)) ∧ (∀ y0 y1 y2 y3 y4, LeO (laws_FnMatchesLet.l0 k y0 y1 y2 y3 y4) (laws_FnMatchesLet.l0 (k + 1) y0 y1 y2 y3 y4))
  | 0 => ⟨fun _ _ _ _ r h => by simp [laws_FnMatchesLet.j0] at h, fun _ _ _ _ _ r h => by simp [laws_FnMatchesLet.l0] at h⟩
  | k + 1 => by
    obtain ⟨ih0, ih1⟩ := laws_FnMatchesLet.mono_l k
    refine ⟨?_, ?_⟩
    · intro y0 y1 y2 y3
      unfold laws_FnMatchesLet.j0
      repeat' first
      | (with_reducible exact ih0 _ _ _ _)
      | (with_reducible exact ih1 _ _ _ _ _)
      | (with_reducible exact spec_DrawMatchesLet.mono _ _)
      | (with_reducible exact spec_MatchesLet.mono _ _ _)
      | (with_reducible exact spec_MatchesOk.mono _ _)
      | (with_reducible exact LeO.refl _)
      | (with_reducible exact LeO.none _)
      | (with_reducible refine LeO.ite ?_ ?_)
      | (with_reducible refine LeO.bind ?_ (fun _ => ?_))
      | exact ih0 _ _ _ _
      | exact ih1 _ _ _ _ _
      | exact spec_DrawMatchesLet.mono _ _
      | exact spec_MatchesLet.mono _ _ _
      | exact spec_MatchesOk.mono _ _
      | exact LeO.none _
      | refine LeO.ite ?_ ?_
      | refine LeO.bind ?_ (fun _ => ?_)
    · intro y0 y1 y2 y3 y4
      unfold laws_FnMatchesLet.l0
      repeat' first
      | (with_reducible exact ih0 _ _ _ _)
      | (with_reducible exact ih1 _ _ _ _ _)
      | (with_reducible exact spec_DrawMatchesLet.mono _ _)
      | (with_reducible exact spec_MatchesLet.mono _ _ _)
      | (with_reducible exact spec_MatchesOk.mono _ _)
      | (with_reducible exact LeO.refl _)
      | (with_reducible exact LeO.none _)
      | (with_reducible refine LeO.ite ?_ ?_)
      | (with_reducible refine LeO.bind ?_ (fun _ => ?_))
      | exact ih0 _ _ _ _
      | exact ih1 _ _ _ _ _
      | exact spec_DrawMatchesLet.mono _ _
      | exact spec_MatchesLet.mono _ _ _
      | exact spec_MatchesOk.mono _ _
      | exact LeO.none _
      | refine LeO.ite ?_ ?_
      | refine LeO.bind ?_ (fun _ => ?_)
theorem laws_FnMatchesLet.mono : ∀ a0 k, LeO (laws_FnMatchesLet.f k a0) (laws_FnMatchesLet.f (k + 1) a0) := by
  intro a0 k
  obtain ⟨ih0, ih1⟩ := laws_FnMatchesLet.mono_l k
  unfold laws_FnMatchesLet.f
  repeat' first
      | (with_reducible exact ih0 _ _ _ _)
      | (with_reducible exact ih1 _ _ _ _ _)
      | (with_reducible exact spec_DrawMatchesLet.mono _ _)
      | (with_reducible exact spec_MatchesLet.mono _ _ _)
      | (with_reducible exact spec_MatchesOk.mono _ _)
      | (with_reducible exact LeO.refl _)
      | (with_reducible exact LeO.none _)
      | (with_reducible refine LeO.ite ?_ ?_)
      | (with_reducible refine LeO.bind ?_ (fun _ => ?_))
      | exact ih0 _ _ _ _
      | exact ih1 _ _ _ _ _
      | exact spec_DrawMatchesLet.mono _ _
      | exact spec_MatchesLet.mono _ _ _
      | exact spec_MatchesOk.mono _ _
      | exact LeO.none _
      | refine LeO.ite ?_ ?_
      | refine LeO.bind ?_ (fun _ => ?_)
set_option maxHeartbeats 8000000 in
set_option maxRecDepth 100000 in
theorem laws_FnMatchesLet.calls (k : Nat) (A0 : Option Addr) (c0 : Nat) (l0 : List Int) (r : Bool) (w : World) (hr0 : Kd.C (Kd.int .u8) w A0 l0.length l0) (hc0 : l0.length ≤ c0) (hrt : r = true) (h : laws_FnMatchesLet.f k l0 = some r) :
    Calls Try.prog 7 #[.slice A0 l0.length c0] w fun e w' => e = .returned (.bool r) ∧ Below w.heap.size w w' := by
  have HT := Aside0.mk hrt
  clear hrt
  have hu48 := Try.underlying48
  have HR0 := Aside0.mk hr0
  have HC0 := Aside0.mk hc0
  clear hr0 hc0
  have HB := Aside0.mk (Below.refl w.heap.size w)
  have H : (if (l0.length : Int) > 1048576 then (some true) else ((spec_DrawMatchesLet.f k l0).bind fun bt248 => ((impl_MatchesLet.f bt248.1 bt248.2).bind fun t254 => ((spec_MatchesLet.f k bt248.1 bt248.2).bind fun t255 => (if (t254 != t255) = true then (laws_FnMatchesLet.j0 k bt248.1 bt248.2 t254 true) else ((spec_MatchesOk.f k bt248.1).bind fun t256 => (if t256 = true then ((spec_LabelsOk.f bt248.2).bind fun t257 => (laws_FnMatchesLet.j0 k bt248.1 bt248.2 t254 (!t257))) else (laws_FnMatchesLet.j0 k bt248.1 bt248.2 t254 true)))))))) = some r := h
  clear h
  by_cases c2 : (l0.length : Int) > 1048576
  · rw [if_pos c2] at H
    have c2b0 : decide (1048576 < (l0.length : Int)) = true := decide_eq_true c2
    have c2b1 : decide (1048576 < l0.length) = true := decide_eq_true (by omega)
    clear c2
    obtain rfl := Option.some.inj H
    go_enter Try.func7, Try.ntmps7
    go_wp2
    go_ret
    exact ⟨by first | rfl | (simp [errW_none, errW_some] <;> rfl) | (simp [*, errW_none, errW_some] <;> rfl), by repeat (first | (with_reducible first | exact HB.out | apply below_alloc | apply pw_below_drewN | apply below_drew1) | exact HB.out)⟩
  · rw [if_neg c2] at H
    have c2b0 : decide (1048576 < (l0.length : Int)) = false := decide_eq_false c2
    have c2b1 : decide (1048576 < l0.length) = false := decide_eq_false (by omega)
    clear c2
    replace H := Option.bind_eq_some_iff.mp H
    obtain ⟨⟨t248, t249⟩, A30, H⟩ := H
    replace H : ((impl_MatchesLet.f t248 t249).bind fun t254 => ((spec_MatchesLet.f k t248 t249).bind fun t255 => (if (t254 != t255) = true then (laws_FnMatchesLet.j0 k t248 t249 t254 true) else ((spec_MatchesOk.f k t248).bind fun t256 => (if t256 = true then ((spec_LabelsOk.f t249).bind fun t257 => (laws_FnMatchesLet.j0 k t248 t249 t254 (!t257))) else (laws_FnMatchesLet.j0 k t248 t249 t254 true)))))) = some r := H
    have A3 := Aside0.mk A30
    clear A30
    replace H := Option.bind_eq_some_iff.mp H
    obtain ⟨t254, A40, H⟩ := H
    replace H : ((spec_MatchesLet.f k t248 t249).bind fun t255 => (if (t254 != t255) = true then (laws_FnMatchesLet.j0 k t248 t249 t254 true) else ((spec_MatchesOk.f k t248).bind fun t256 => (if t256 = true then ((spec_LabelsOk.f t249).bind fun t257 => (laws_FnMatchesLet.j0 k t248 t249 t254 (!t257))) else (laws_FnMatchesLet.j0 k t248 t249 t254 true))))) = some r := H
    have A4 := Aside0.mk A40
    clear A40
    have HC5 := Aside0.mk H
    clear H
    go_enter Try.func7, Try.ntmps7
    go_upto_region 5 with (first | ((with_reducible refine gate_callee (f := 26) rfl ?_); refine goesL_ (some 15) rfl rfl Try.func26 (by kernel_rfl) rfl #[.slice A0 l0.length c0] rfl (by (try simp only [List.map_toArray, List.map_cons, List.map_nil]); first | done | rfl | (simp only [List.length_drop, List.length_take]; rfl)) ?_; (with_reducible refine (spec_DrawMatchesLet.calls k _ _ l0 t248 t249 _ ?side1 ?side2 A3.out).mono ?_); (case side1 => repeat (first | exact HR0.out | (with_reducible refine Kd.C_alloc ?_ _) | (with_reducible refine Kd.C_drewN ?_ _) | (with_reducible refine Kd.C_drew ?_))); (case side2 => exact HC0.out); rintro e w6 ⟨v250, v252, rfl, ho0, ho1, hb⟩; refine ⟨_, rfl, ?_⟩; have n0_ := Aside0.mk (Kd.R_lower ho0 (below_size (by repeat (first | (with_reducible first | exact HB.out | apply below_alloc | apply pw_below_drewN | apply below_drew1) | exact HB.out)))); have n1_ := Aside0.mk (Kd.R_lower ho1 (below_size (by repeat (first | (with_reducible first | exact HB.out | apply below_alloc | apply pw_below_drewN | apply below_drew1) | exact HB.out)))); have n2_ := Aside0.mk (below_step (by repeat (first | (with_reducible first | exact HB.out | apply below_alloc | apply pw_below_drewN | apply below_drew1) | exact HB.out)) hb); clear HB; have HO251 := n0_; have HO253 := n1_; have HB := n2_; clear n0_ n1_ n2_; (try clear hb); (try clear hb2); (try clear hk); (try clear hi); (try clear ho0); (try clear ho1); obtain ⟨Ao7, co7, eo7⟩ := Kd.R_slice HO251.out; subst eo7; obtain ⟨Ao8, co8, eo8⟩ := Kd.R_slice HO253.out; subst eo8) | ((with_reducible refine gate_callee (f := 27) rfl ?_); refine goesL_ (some 20) rfl rfl Try.func27 (by kernel_rfl) rfl #[.slice Ao7 t248.length co7, .slice Ao8 t249.length co8] rfl (by (try simp only [List.map_toArray, List.map_cons, List.map_nil]); first | done | rfl | (simp only [List.length_drop, List.length_take]; rfl)) ?_; (with_reducible refine (impl_MatchesLet.calls _ _ t248 _ _ t249 t254 _ ?side1 ?side2 ?side3 ?side4 A4.out).mono ?_); (case side1 => repeat (first | exact (Kd.R_reads' HO251.out).2.2 | (with_reducible refine Kd.C_alloc ?_ _) | (with_reducible refine Kd.C_drewN ?_ _) | (with_reducible refine Kd.C_drew ?_))); (case side2 => exact (Kd.R_reads' HO251.out).2.1); (case side3 => repeat (first | exact (Kd.R_reads' HO253.out).2.2 | (with_reducible refine Kd.C_alloc ?_ _) | (with_reducible refine Kd.C_drewN ?_ _) | (with_reducible refine Kd.C_drew ?_))); (case side4 => exact (Kd.R_reads' HO253.out).2.1); rintro e w9 ⟨rfl, hb⟩; refine ⟨_, rfl, ?_⟩; have n0_ := Aside0.mk (Kd.R_below (by (with_reducible repeat (first | apply Kd.R_alloc | apply Kd.R_drewN | apply Kd.R_drew)); exact HO251.out) hb); have n1_ := Aside0.mk (Kd.R_below (by (with_reducible repeat (first | apply Kd.R_alloc | apply Kd.R_drewN | apply Kd.R_drew)); exact HO253.out) hb); have n2_ := Aside0.mk (below_step (by repeat (first | (with_reducible first | exact HB.out | apply below_alloc | apply pw_below_drewN | apply below_drew1) | exact HB.out)) hb); clear HO251; clear HO253; clear HB; have HO251 := n0_; have HO253 := n1_; have HB := n2_; clear n0_ n1_ n2_; (try clear hb); (try clear hb2); (try clear hk); (try clear hi)))
    (try simp only [Act.put, List.setIfInBounds_toArray, List.set_cons_zero, List.set_cons_succ])
    go_cut [35] (fun v35 wc => ∃ (kq : Nat) (x35_4 : Bool), v35 = .bool x35_4 ∧ Aside0 (laws_FnMatchesLet.j0 kq t248 t249 t254 x35_4 = some r) ∧ Aside0 (kq ≤ k) ∧ Aside0 (Kd.R k48 48 wc w.heap.size (fun _ => True) (.slice Ao7 t248.length co7) t248) ∧ Aside0 (Kd.R k52 52 wc w.heap.size (fun _ => True) (.slice Ao8 t249.length co8) t249) ∧ Aside0 (Below w.heap.size w wc))
    case first =>
      have H := HC5.out
      clear HC5
      replace H := Option.bind_eq_some_iff.mp H
      obtain ⟨t255, A100, H⟩ := H
      replace H : (if (t254 != t255) = true then (laws_FnMatchesLet.j0 k t248 t249 t254 true) else ((spec_MatchesOk.f k t248).bind fun t256 => (if t256 = true then ((spec_LabelsOk.f t249).bind fun t257 => (laws_FnMatchesLet.j0 k t248 t249 t254 (!t257))) else (laws_FnMatchesLet.j0 k t248 t249 t254 true)))) = some r := H
      have A10 := Aside0.mk A100
      clear A100
      by_cases c11 : (t254 != t255) = true
      · rw [if_pos c11] at H
        have c11b0 : (t254 != t255) = true := c11
        (try (have c11b1 : decide (t254 = t255) = false := by simpa using c11))
        (try (have c11b2 : (t254 == t255) = false := by simpa using c11))
        (try (have c11b3 : ¬ (t254 = t255) := by simpa using c11))
        clear c11
        (first | rw [c11b0] | (simp only [i64_w, i32_w]; rw [c11b0]) | skip)
        have H' := Aside0.mk H
        clear H
        go_wp2_with (first | ((with_reducible refine gate_callee (f := 28) rfl ?_); refine goesL_ (some 24) rfl rfl Try.func28 (by kernel_rfl) rfl #[.slice Ao7 t248.length co7, .slice Ao8 t249.length co8] rfl (by (try simp only [List.map_toArray, List.map_cons, List.map_nil]); first | done | rfl | (simp only [List.length_drop, List.length_take]; rfl)) ?_; (with_reducible refine (spec_MatchesLet.calls k _ _ t248 _ _ t249 t255 _ ?side1 ?side2 ?side3 ?side4 A10.out).mono ?_); (case side1 => repeat (first | exact (Kd.R_reads' HO251.out).2.2 | (with_reducible refine Kd.C_alloc ?_ _) | (with_reducible refine Kd.C_drewN ?_ _) | (with_reducible refine Kd.C_drew ?_))); (case side2 => exact (Kd.R_reads' HO251.out).2.1); (case side3 => repeat (first | exact (Kd.R_reads' HO253.out).2.2 | (with_reducible refine Kd.C_alloc ?_ _) | (with_reducible refine Kd.C_drewN ?_ _) | (with_reducible refine Kd.C_drew ?_))); (case side4 => exact (Kd.R_reads' HO253.out).2.1); rintro e w12 ⟨rfl, hb⟩; refine ⟨_, rfl, ?_⟩; have n0_ := Aside0.mk (Kd.R_below (by (with_reducible repeat (first | apply Kd.R_alloc | apply Kd.R_drewN | apply Kd.R_drew)); exact HO251.out) hb); have n1_ := Aside0.mk (Kd.R_below (by (with_reducible repeat (first | apply Kd.R_alloc | apply Kd.R_drewN | apply Kd.R_drew)); exact HO253.out) hb); have n2_ := Aside0.mk (below_step (by repeat (first | (with_reducible first | exact HB.out | apply below_alloc | apply pw_below_drewN | apply below_drew1) | exact HB.out)) hb); clear HO251; clear HO253; clear HB; have HO251 := n0_; have HO253 := n1_; have HB := n2_; clear n0_ n1_ n2_; (try clear hb); (try clear hb2); (try clear hk); (try clear hi)))
        go_meet
        case rel => exact ⟨_, (true), (by first | rfl | (simp; done) | (simp [*]; done) | (simp only [my_ne_nil]; rfl)), H', ⟨by first | omega | exact Nat.le_refl _⟩, ⟨by (with_reducible repeat (first | apply Kd.R_alloc | apply Kd.R_drewN | apply Kd.R_drew)); exact HO251.out⟩, ⟨by (with_reducible repeat (first | apply Kd.R_alloc | apply Kd.R_drewN | apply Kd.R_drew)); exact HO253.out⟩, ⟨by repeat (first | (with_reducible first | exact HB.out | apply below_alloc | apply pw_below_drewN | apply below_drew1) | exact HB.out)⟩⟩
      · rw [if_neg c11] at H
        have c11b0 : (t254 != t255) = false := by simpa using c11
        (try (have c11b1 : decide (t254 = t255) = true := by simpa using c11))
        (try (have c11b2 : (t254 == t255) = true := by simpa using c11))
        clear c11
        (first | rw [c11b0] | (simp only [i64_w, i32_w]; rw [c11b0]) | skip)
        replace H := Option.bind_eq_some_iff.mp H
        obtain ⟨t256, A130, H⟩ := H
        replace H : (if t256 = true then ((spec_LabelsOk.f t249).bind fun t257 => (laws_FnMatchesLet.j0 k t248 t249 t254 (!t257))) else (laws_FnMatchesLet.j0 k t248 t249 t254 true)) = some r := H
        have A13 := Aside0.mk A130
        clear A130
        by_cases c14 : t256 = true
        · subst c14
          have H1 : ((spec_LabelsOk.f t249).bind fun t257 => (laws_FnMatchesLet.j0 k t248 t249 t254 (!t257))) = some r := by rw [if_pos rfl] at H; exact H
          clear H
          have H := H1
          clear H1
          replace H := Option.bind_eq_some_iff.mp H
          obtain ⟨t257, A150, H⟩ := H
          replace H : (laws_FnMatchesLet.j0 k t248 t249 t254 (!t257)) = some r := H
          have A15 := Aside0.mk A150
          clear A150
          have H' := Aside0.mk H
          clear H
          go_wp2_with (first | ((with_reducible refine gate_callee (f := 28) rfl ?_); refine goesL_ (some 24) rfl rfl Try.func28 (by kernel_rfl) rfl #[.slice Ao7 t248.length co7, .slice Ao8 t249.length co8] rfl (by (try simp only [List.map_toArray, List.map_cons, List.map_nil]); first | done | rfl | (simp only [List.length_drop, List.length_take]; rfl)) ?_; (with_reducible refine (spec_MatchesLet.calls k _ _ t248 _ _ t249 t255 _ ?side1 ?side2 ?side3 ?side4 A10.out).mono ?_); (case side1 => repeat (first | exact (Kd.R_reads' HO251.out).2.2 | (with_reducible refine Kd.C_alloc ?_ _) | (with_reducible refine Kd.C_drewN ?_ _) | (with_reducible refine Kd.C_drew ?_))); (case side2 => exact (Kd.R_reads' HO251.out).2.1); (case side3 => repeat (first | exact (Kd.R_reads' HO253.out).2.2 | (with_reducible refine Kd.C_alloc ?_ _) | (with_reducible refine Kd.C_drewN ?_ _) | (with_reducible refine Kd.C_drew ?_))); (case side4 => exact (Kd.R_reads' HO253.out).2.1); rintro e w16 ⟨rfl, hb⟩; refine ⟨_, rfl, ?_⟩; have n0_ := Aside0.mk (Kd.R_below (by (with_reducible repeat (first | apply Kd.R_alloc | apply Kd.R_drewN | apply Kd.R_drew)); exact HO251.out) hb); have n1_ := Aside0.mk (Kd.R_below (by (with_reducible repeat (first | apply Kd.R_alloc | apply Kd.R_drewN | apply Kd.R_drew)); exact HO253.out) hb); have n2_ := Aside0.mk (below_step (by repeat (first | (with_reducible first | exact HB.out | apply below_alloc | apply pw_below_drewN | apply below_drew1) | exact HB.out)) hb); clear HO251; clear HO253; clear HB; have HO251 := n0_; have HO253 := n1_; have HB := n2_; clear n0_ n1_ n2_; (try clear hb); (try clear hb2); (try clear hk); (try clear hi)) | (go_at_call 29; (with_reducible refine (spec_MatchesOk.calls k _ _ t248 true _ ?side1 ?side2 A13.out).mono ?_); (case side1 => repeat (first | exact (Kd.R_reads' HO251.out).2.2 | (with_reducible refine Kd.C_alloc ?_ _) | (with_reducible refine Kd.C_drewN ?_ _) | (with_reducible refine Kd.C_drew ?_))); (case side2 => exact (Kd.R_reads' HO251.out).2.1); rintro e w' ⟨rfl, ⟨nd, rfl⟩⟩) | (go_at_call 19; (with_reducible refine (spec_LabelsOk.calls _ _ t249 t257 _ ?side1 ?side2 A15.out).mono ?_); (case side1 => repeat (first | exact (Kd.R_reads' HO253.out).2.2 | (with_reducible refine Kd.C_alloc ?_ _) | (with_reducible refine Kd.C_drewN ?_ _) | (with_reducible refine Kd.C_drew ?_))); (case side2 => exact (Kd.R_reads' HO253.out).2.1); rintro e w' ⟨rfl, ⟨nd, rfl⟩⟩))
          go_meet
          case rel => exact ⟨_, (!t257), (by first | rfl | (simp; done) | (simp [*]; done) | (simp only [my_ne_nil]; rfl)), H', ⟨by first | omega | exact Nat.le_refl _⟩, ⟨by (with_reducible repeat (first | apply Kd.R_alloc | apply Kd.R_drewN | apply Kd.R_drew)); exact HO251.out⟩, ⟨by (with_reducible repeat (first | apply Kd.R_alloc | apply Kd.R_drewN | apply Kd.R_drew)); exact HO253.out⟩, ⟨by repeat (first | (with_reducible first | exact HB.out | apply below_alloc | apply pw_below_drewN | apply below_drew1) | exact HB.out)⟩⟩
        · replace c14 := Bool.eq_false_iff.mpr c14
          subst c14
          have H1 : (laws_FnMatchesLet.j0 k t248 t249 t254 true) = some r := by rw [if_neg (show ¬ (false = true) by decide)] at H; exact H
          clear H
          have H := H1
          clear H1
          have H' := Aside0.mk H
          clear H
          go_wp2_with (first | ((with_reducible refine gate_callee (f := 28) rfl ?_); refine goesL_ (some 24) rfl rfl Try.func28 (by kernel_rfl) rfl #[.slice Ao7 t248.length co7, .slice Ao8 t249.length co8] rfl (by (try simp only [List.map_toArray, List.map_cons, List.map_nil]); first | done | rfl | (simp only [List.length_drop, List.length_take]; rfl)) ?_; (with_reducible refine (spec_MatchesLet.calls k _ _ t248 _ _ t249 t255 _ ?side1 ?side2 ?side3 ?side4 A10.out).mono ?_); (case side1 => repeat (first | exact (Kd.R_reads' HO251.out).2.2 | (with_reducible refine Kd.C_alloc ?_ _) | (with_reducible refine Kd.C_drewN ?_ _) | (with_reducible refine Kd.C_drew ?_))); (case side2 => exact (Kd.R_reads' HO251.out).2.1); (case side3 => repeat (first | exact (Kd.R_reads' HO253.out).2.2 | (with_reducible refine Kd.C_alloc ?_ _) | (with_reducible refine Kd.C_drewN ?_ _) | (with_reducible refine Kd.C_drew ?_))); (case side4 => exact (Kd.R_reads' HO253.out).2.1); rintro e w17 ⟨rfl, hb⟩; refine ⟨_, rfl, ?_⟩; have n0_ := Aside0.mk (Kd.R_below (by (with_reducible repeat (first | apply Kd.R_alloc | apply Kd.R_drewN | apply Kd.R_drew)); exact HO251.out) hb); have n1_ := Aside0.mk (Kd.R_below (by (with_reducible repeat (first | apply Kd.R_alloc | apply Kd.R_drewN | apply Kd.R_drew)); exact HO253.out) hb); have n2_ := Aside0.mk (below_step (by repeat (first | (with_reducible first | exact HB.out | apply below_alloc | apply pw_below_drewN | apply below_drew1) | exact HB.out)) hb); clear HO251; clear HO253; clear HB; have HO251 := n0_; have HO253 := n1_; have HB := n2_; clear n0_ n1_ n2_; (try clear hb); (try clear hb2); (try clear hk); (try clear hi)) | (go_at_call 29; (with_reducible refine (spec_MatchesOk.calls k _ _ t248 false _ ?side1 ?side2 A13.out).mono ?_); (case side1 => repeat (first | exact (Kd.R_reads' HO251.out).2.2 | (with_reducible refine Kd.C_alloc ?_ _) | (with_reducible refine Kd.C_drewN ?_ _) | (with_reducible refine Kd.C_drew ?_))); (case side2 => exact (Kd.R_reads' HO251.out).2.1); rintro e w' ⟨rfl, ⟨nd, rfl⟩⟩))
          go_meet
          case rel => exact ⟨_, (true), (by first | rfl | (simp; done) | (simp [*]; done) | (simp only [my_ne_nil]; rfl)), H', ⟨by first | omega | exact Nat.le_refl _⟩, ⟨by (with_reducible repeat (first | apply Kd.R_alloc | apply Kd.R_drewN | apply Kd.R_drew)); exact HO251.out⟩, ⟨by (with_reducible repeat (first | apply Kd.R_alloc | apply Kd.R_drewN | apply Kd.R_drew)); exact HO253.out⟩, ⟨by repeat (first | (with_reducible first | exact HB.out | apply below_alloc | apply pw_below_drewN | apply below_drew1) | exact HB.out)⟩⟩
    case rest =>
      clear HC5
      try clear c1
      try clear c2
      try clear c2b0
      try clear c2b1
      try clear p2
      try clear c7
      try clear c11
      try clear c11b0
      try clear c11b1
      try clear c11b2
      try clear c14
      obtain ⟨kq, x35_4, rfl, HA, HJ4, HO_3, HO_4, HB⟩ := hcut
      cases kq with
      | zero => exact absurd HA.out (by simp [laws_FnMatchesLet.j0])
      | succ kj4 =>
        have H := HA.out
        clear HA
        simp only [laws_FnMatchesLet.j0] at H
        by_cases c18 : x35_4 = true
        · subst c18
          have H1 : ((spec_MatchesLet.f kj4 t248 t249).bind fun t258 => (some (t254 == t258))) = some r := by rw [if_pos rfl] at H; exact H
          clear H
          have H := H1
          clear H1
          replace H := Option.bind_eq_some_iff.mp H
          obtain ⟨t258, A190, H⟩ := H
          replace H : (some (t254 == t258)) = some r := H
          have A19 := Aside0.mk A190
          clear A190
          obtain rfl := Option.some.inj H
          go_wp2_with (first | ((with_reducible refine gate_callee (f := 28) rfl ?_); refine goesL_ (some 39) rfl rfl Try.func28 (by kernel_rfl) rfl #[.slice Ao7 t248.length co7, .slice Ao8 t249.length co8] rfl (by (try simp only [List.map_toArray, List.map_cons, List.map_nil]); first | done | rfl | (simp only [List.length_drop, List.length_take]; rfl)) ?_; (with_reducible refine (spec_MatchesLet.calls kj4 _ _ t248 _ _ t249 t258 _ ?side1 ?side2 ?side3 ?side4 A19.out).mono ?_); (case side1 => repeat (first | exact (Kd.R_reads' HO_3.out).2.2 | (with_reducible refine Kd.C_alloc ?_ _) | (with_reducible refine Kd.C_drewN ?_ _) | (with_reducible refine Kd.C_drew ?_))); (case side2 => exact (Kd.R_reads' HO_3.out).2.1); (case side3 => repeat (first | exact (Kd.R_reads' HO_4.out).2.2 | (with_reducible refine Kd.C_alloc ?_ _) | (with_reducible refine Kd.C_drewN ?_ _) | (with_reducible refine Kd.C_drew ?_))); (case side4 => exact (Kd.R_reads' HO_4.out).2.1); rintro e w20 ⟨rfl, hb⟩; refine ⟨_, rfl, ?_⟩; have n0_ := Aside0.mk (Kd.R_below (by (with_reducible repeat (first | apply Kd.R_alloc | apply Kd.R_drewN | apply Kd.R_drew)); exact HO_3.out) hb); have n1_ := Aside0.mk (Kd.R_below (by (with_reducible repeat (first | apply Kd.R_alloc | apply Kd.R_drewN | apply Kd.R_drew)); exact HO_4.out) hb); have n2_ := Aside0.mk (below_step (by repeat (first | (with_reducible first | exact HB.out | apply below_alloc | apply pw_below_drewN | apply below_drew1) | exact HB.out)) hb); clear HO_3; clear HO_4; clear HB; have HO_3 := n0_; have HO_4 := n1_; have HB := n2_; clear n0_ n1_ n2_; (try clear hb); (try clear hb2); (try clear hk); (try clear hi)))
          go_ret
          exact ⟨by first | rfl | (simp [errW_none, errW_some] <;> rfl) | (simp [*, errW_none, errW_some] <;> rfl), by repeat (first | (with_reducible first | exact HB.out | apply below_alloc | apply pw_below_drewN | apply below_drew1) | exact HB.out)⟩
        · replace c18 := Bool.eq_false_iff.mpr c18
          subst c18
          have H1 : (laws_FnMatchesLet.l0 kj4 t248 t249 t254 true 0) = some r := by rw [if_neg (show ¬ (false = true) by decide)] at H; exact H
          clear H
          have H := H1
          clear H1
          have H' := Aside0.mk H
          clear H
          go_wp2
          go_loopg [6, 7] kj4 (fun kq v6 v7 w' => ∃ (x6_2 : Bool) (x7_2 : Int), v6 = .bool x6_2 ∧ v7 = .int .i64 x7_2 ∧ Aside0 (laws_FnMatchesLet.l0 kq t248 t249 t254 x6_2 x7_2 = some r) ∧ Aside0 (kq ≤ kj4) ∧ Aside0 (Kd.R k48 48 w' w.heap.size (fun _ => True) (.slice Ao7 t248.length co7) t248) ∧ Aside0 (Kd.R k52 52 w' w.heap.size (fun _ => True) (.slice Ao8 t249.length co8) t249) ∧ Aside0 (Below w.heap.size w w'))
          case atStart => exact ⟨(true), (0), (by first | rfl | (simp; done) | (simp [*]; done) | (simp only [my_ne_nil]; rfl)), (by first | rfl | (simp; done) | (simp [*]; done) | (simp only [my_ne_nil]; rfl)), H', ⟨Nat.le_refl _⟩, ⟨by (with_reducible repeat (first | apply Kd.R_alloc | apply Kd.R_drewN | apply Kd.R_drew)); exact HO_3.out⟩, ⟨by (with_reducible repeat (first | apply Kd.R_alloc | apply Kd.R_drewN | apply Kd.R_drew)); exact HO_4.out⟩, ⟨by repeat (first | (with_reducible first | exact HB.out | apply below_alloc | apply pw_below_drewN | apply below_drew1) | exact HB.out)⟩⟩
          case round =>
            clear H'
            try clear c1
            try clear c2
            try clear c2b0
            try clear c2b1
            try clear p2
            try clear c7
            try clear c11
            try clear c11b0
            try clear c11b1
            try clear c11b2
            try clear c14
            try clear c18
            try clear p2
            obtain ⟨x6_2, x7_2, rfl, rfl, HA, HK2, HO_3, HO_4, HB⟩ := hrel
            cases gk with
            | zero => exact absurd HA.out (by simp [laws_FnMatchesLet.l0])
            | succ k2 =>
              have H := HA.out
              clear HA
              simp only [laws_FnMatchesLet.l0] at H
              by_cases c21 : x7_2 < (t248.length : Int)
              · rw [if_pos c21] at H
                have c21b0 : decide (x7_2 < (t248.length : Int)) = true := decide_eq_true c21
                clear c21
                by_cases c22 : 0 ≤ x7_2
                · rw [if_pos c22] at H
                  have c22b0 : decide (0 ≤ x7_2) = true := decide_eq_true c22
                  clear c22
                  obtain ⟨y262, hy262⟩ : ∃ y_ : List (S48), y_ = (([(⟨(rd_T48 t248 x7_2).f0, (rd_T48 t248 x7_2).f1, (rd_T48 t248 x7_2).f2⟩ : S48)] : List (S48))) := ⟨_, rfl⟩
                  replace H : ((impl_MatchesLet.f y262 t249).bind fun t265 => (if x6_2 = true then ((some (([0, 2, 1, 4, 3] : List Int) : List Int)).bind fun y266 => (if 0 ≤ ((rd_T48 t248 x7_2).f0) then (if ((rd_T48 t248 x7_2).f0) < (y266.length : Int) then ((impl_MatchesLet.f (([(⟨rd y266 ((rd_T48 t248 x7_2).f0), (rd_T48 t248 x7_2).f1, (rd_T48 t248 x7_2).f2⟩ : S48)] : List (S48))) t249).bind fun t273 => (if (t273 == t265) = true then (some false) else (laws_FnMatchesLet.l0 k2 t248 t249 t254 t265 (wrap64 (x7_2 + 1))))) else (none)) else (none))) else ((some (([0, 2, 1, 4, 3] : List Int) : List Int)).bind fun y274 => (if 0 ≤ ((rd_T48 t248 x7_2).f0) then (if ((rd_T48 t248 x7_2).f0) < (y274.length : Int) then ((impl_MatchesLet.f (([(⟨rd y274 ((rd_T48 t248 x7_2).f0), (rd_T48 t248 x7_2).f1, (rd_T48 t248 x7_2).f2⟩ : S48)] : List (S48))) t249).bind fun t281 => (if (t281 == t265) = true then (some false) else (laws_FnMatchesLet.l0 k2 t248 t249 t254 false (wrap64 (x7_2 + 1))))) else (none)) else (none))))) = some r := by first | (rw [hy262]; with_reducible exact H) | (have H2_ := (Option.bind_some _ _).symm.trans H; rw [hy262]; with_reducible exact H2_) | (have H2_ := (Option.bind_some _ _).symm.trans H; with_reducible exact H2_) | with_reducible exact H | (rw [hy262]; exact H) | exact H
                  have Ny262 := Aside0.mk hy262
                  clear hy262
                  replace H := Option.bind_eq_some_iff.mp H
                  obtain ⟨t265, A230, H⟩ := H
                  replace H : (if x6_2 = true then ((some (([0, 2, 1, 4, 3] : List Int) : List Int)).bind fun y266 => (if 0 ≤ ((rd_T48 t248 x7_2).f0) then (if ((rd_T48 t248 x7_2).f0) < (y266.length : Int) then ((impl_MatchesLet.f (([(⟨rd y266 ((rd_T48 t248 x7_2).f0), (rd_T48 t248 x7_2).f1, (rd_T48 t248 x7_2).f2⟩ : S48)] : List (S48))) t249).bind fun t273 => (if (t273 == t265) = true then (some false) else (laws_FnMatchesLet.l0 k2 t248 t249 t254 t265 (wrap64 (x7_2 + 1))))) else (none)) else (none))) else ((some (([0, 2, 1, 4, 3] : List Int) : List Int)).bind fun y274 => (if 0 ≤ ((rd_T48 t248 x7_2).f0) then (if ((rd_T48 t248 x7_2).f0) < (y274.length : Int) then ((impl_MatchesLet.f (([(⟨rd y274 ((rd_T48 t248 x7_2).f0), (rd_T48 t248 x7_2).f1, (rd_T48 t248 x7_2).f2⟩ : S48)] : List (S48))) t249).bind fun t281 => (if (t281 == t265) = true then (some false) else (laws_FnMatchesLet.l0 k2 t248 t249 t254 false (wrap64 (x7_2 + 1))))) else (none)) else (none)))) = some r := H
                  have A23 := Aside0.mk A230
                  clear A230
                  by_cases c24 : x6_2 = true
                  · subst c24
                    have H1 : ((some (([0, 2, 1, 4, 3] : List Int) : List Int)).bind fun y266 => (if 0 ≤ ((rd_T48 t248 x7_2).f0) then (if ((rd_T48 t248 x7_2).f0) < (y266.length : Int) then ((impl_MatchesLet.f (([(⟨rd y266 ((rd_T48 t248 x7_2).f0), (rd_T48 t248 x7_2).f1, (rd_T48 t248 x7_2).f2⟩ : S48)] : List (S48))) t249).bind fun t273 => (if (t273 == t265) = true then (some false) else (laws_FnMatchesLet.l0 k2 t248 t249 t254 t265 (wrap64 (x7_2 + 1))))) else (none)) else (none))) = some r := by rw [if_pos rfl] at H; exact H
                    clear H
                    have H := H1
                    clear H1
                    obtain ⟨y266, hy266⟩ : ∃ y_ : List Int, y_ = (([0, 2, 1, 4, 3] : List Int)) := ⟨_, rfl⟩
                    replace H : (if 0 ≤ ((rd_T48 t248 x7_2).f0) then (if ((rd_T48 t248 x7_2).f0) < (y266.length : Int) then ((impl_MatchesLet.f (([(⟨rd y266 ((rd_T48 t248 x7_2).f0), (rd_T48 t248 x7_2).f1, (rd_T48 t248 x7_2).f2⟩ : S48)] : List (S48))) t249).bind fun t273 => (if (t273 == t265) = true then (some false) else (laws_FnMatchesLet.l0 k2 t248 t249 t254 t265 (wrap64 (x7_2 + 1))))) else (none)) else (none)) = some r := by first | (rw [hy266]; with_reducible exact H) | (have H2_ := (Option.bind_some _ _).symm.trans H; rw [hy266]; with_reducible exact H2_) | (have H2_ := (Option.bind_some _ _).symm.trans H; with_reducible exact H2_) | with_reducible exact H | (rw [hy266]; exact H) | exact H
                    have Ny266 := Aside0.mk hy266
                    clear hy266
                    by_cases c25 : 0 ≤ ((rd_T48 t248 x7_2).f0)
                    · rw [if_pos c25] at H
                      have c25b0 : decide (0 ≤ ((rd_T48 t248 x7_2).f0)) = true := decide_eq_true c25
                      clear c25
                      by_cases c26 : ((rd_T48 t248 x7_2).f0) < (y266.length : Int)
                      · rw [if_pos c26] at H
                        have c26b0 : decide (((rd_T48 t248 x7_2).f0) < (y266.length : Int)) = true := decide_eq_true c26
                        clear c26
                        obtain ⟨y270, hy270⟩ : ∃ y_ : List (S48), y_ = (([(⟨rd y266 ((rd_T48 t248 x7_2).f0), (rd_T48 t248 x7_2).f1, (rd_T48 t248 x7_2).f2⟩ : S48)] : List (S48))) := ⟨_, rfl⟩
                        replace H : ((impl_MatchesLet.f y270 t249).bind fun t273 => (if (t273 == t265) = true then (some false) else (laws_FnMatchesLet.l0 k2 t248 t249 t254 t265 (wrap64 (x7_2 + 1))))) = some r := by first | (rw [hy270]; with_reducible exact H) | (have H2_ := (Option.bind_some _ _).symm.trans H; rw [hy270]; with_reducible exact H2_) | (have H2_ := (Option.bind_some _ _).symm.trans H; with_reducible exact H2_) | with_reducible exact H | (rw [hy270]; exact H) | exact H
                        have Ny270 := Aside0.mk hy270
                        clear hy270
                        replace H := Option.bind_eq_some_iff.mp H
                        obtain ⟨t273, A270, H⟩ := H
                        replace H : (if (t273 == t265) = true then (some false) else (laws_FnMatchesLet.l0 k2 t248 t249 t254 t265 (wrap64 (x7_2 + 1)))) = some r := H
                        have A27 := Aside0.mk A270
                        clear A270
                        by_cases c28 : (t273 == t265) = true
                        · rw [if_pos c28] at H
                          have c28b0 : (t273 == t265) = true := c28
                          (try (have c28b1 : decide (t273 = t265) = true := by simpa using c28))
                          (try (have c28b2 : (t273 == t265) = true := by simpa using c28))
                          clear c28
                          exact absurd (show some false = some true from (by have h_ := H; rw [HT.out] at h_; exact h_)) (by simp)
                        · rw [if_neg c28] at H
                          have c28b0 : (t273 == t265) = false := by simpa using c28
                          (try (have c28b1 : decide (t273 = t265) = false := by simpa using c28))
                          (try (have c28b2 : (t273 == t265) = false := by simpa using c28))
                          (try (have c28b3 : ¬ (t273 = t265) := by simpa using c28))
                          clear c28
                          have H' := Aside0.mk H
                          clear H
                          have p260 : 0 ≤ (x7_2 : Int) := of_decide_eq_true (by first | (with_reducible assumption) | assumption)
                          have q260 : x7_2 < (t248.length : Int) := of_decide_eq_true (by first | (with_reducible assumption) | assumption)
                          obtain ⟨ad260, e260, hx260_0, hx260_1, hx260_2⟩ := at_T48 (Kd.R_reads' HO_3.out).2.2 x7_2 p260 q260
                          cases e260
                          replace p260 := eq_true p260
                          replace q260 := eq_true q260
                          go_wp2_with (first | ((with_reducible refine gate_dst (N := 8) rfl ?_); refine box_event ?hg (N := 8) ?hd (cs := #[.int .i64 0, .string (⟨#[]⟩ : ByteArray), .string (⟨#[]⟩ : ByteArray)]) (t := 48) ?hr ?_; (case hd => rfl); (case hg => rfl); (case hr => first | (go_simp; done) | (go_simp; rfl)); intro gb261 hg w29 hbox hb; have n0_ := Aside0.mk (Kd.R_below (Kd.R_elderB (by (with_reducible repeat (first | apply Kd.R_alloc | apply Kd.R_drewN | apply Kd.R_drew)); exact HO_3.out) gb261 (Nat.le_of_eq hg.symm)) hb); have n1_ := Aside0.mk (Kd.R_below (by (with_reducible repeat (first | apply Kd.R_alloc | apply Kd.R_drewN | apply Kd.R_drew)); exact HO_4.out) hb); have n2_ := Aside0.mk (below_step (by repeat (first | (with_reducible first | exact HB.out | apply below_alloc | apply pw_below_drewN | apply below_drew1) | exact HB.out)) hb); have n3_ := Aside0.mk (hbox); have n4_ := Aside0.mk ((by rw [hg]; exact (below_size (by repeat (first | (with_reducible first | exact HB.out | apply below_alloc | apply pw_below_drewN | apply below_drew1) | exact HB.out))) : w.heap.size ≤ gb261)); have n5_ := Aside0.mk ((by rw [hg]; exact (below_size (by repeat (first | (with_reducible first | exact HB.out | apply below_alloc | apply pw_below_drewN | apply below_drew1) | exact HB.out))) : w.heap.size ≤ gb261)); clear HO_3; clear HO_4; clear HB; have HO_3 := n0_; have HO_4 := n1_; have HB := n2_; have BK261 := n3_; have GW261 := n4_; have GE261 := n5_; clear n0_ n1_ n2_ n3_ n4_ n5_; clear hb hbox hg; have hcz30_0 : w29.cell? ⟨gb261, 0, none⟩ = some (.int .i64 0) := (blk_cell BK261.out 0).trans rfl; have hcz30_1 : w29.cell? ⟨gb261, 1, none⟩ = some (.string (⟨#[]⟩ : ByteArray)) := (blk_cell BK261.out 1).trans rfl; have hcz30_2 : w29.cell? ⟨gb261, 2, none⟩ = some (.string (⟨#[]⟩ : ByteArray)) := (blk_cell BK261.out 2).trans rfl; have hfz30_0 := blk_frozen BK261.out 0; have hfz30_1 := blk_frozen BK261.out 1; have hfz30_2 := blk_frozen BK261.out 2) | ((with_reducible refine gate_dst (N := 52) rfl ?_); refine Kd.R_lit k48 _ 48 ?hg (N := 52) ?hd (xs := ([(⟨(rd_T48 t248 x7_2).f0, (rd_T48 t248 x7_2).f1, (rd_T48 t248 x7_2).f2⟩ : S48)] : List (S48))) (inner := [.int .i64 ((rd_T48 t248 x7_2).f0), .string ((rd_T48 t248 x7_2).f1), .string ((rd_T48 t248 x7_2).f2)]) (ok := fun _ => True) (okp := fun _ => True) ?hr ?hp (fun _ hk => hk) trivial (Below.refl _ _) (Nat.le_refl _) (by simp) ?_; (case hd => rfl); (case hg => rfl); (case hr => first | (go_simp; done) | (go_simp; rfl)); (case hp => exact (Reps.c3 (show Kd.M k48 _ _ _ (⟨(rd_T48 t248 x7_2).f0, (rd_T48 t248 x7_2).f1, (rd_T48 t248 x7_2).f2⟩ : S48) [.int .i64 ((rd_T48 t248 x7_2).f0), .string ((rd_T48 t248 x7_2).f1), .string ((rd_T48 t248 x7_2).f2)] from (k48_mkM _ _ _ (⟨(rd_T48 t248 x7_2).f0, (rd_T48 t248 x7_2).f1, (rd_T48 t248 x7_2).f2⟩ : S48) )) (Reps.none _ _))); intro v263 w31 ho32 hb hg_ hnew_; clear hg_ hnew_; (first | rw [← Ny262.out] at ho32 | (simp only [Int.reduceToNat] at ho32; rw [← Ny262.out] at ho32)); have n0_ := Aside0.mk (Kd.R_elder' (by (with_reducible repeat (first | apply Kd.R_alloc | apply Kd.R_drewN | apply Kd.R_drew)); exact (Kd.R_mono (Kd.R_far (p := ⟨gb261, 2, none⟩) (Kd.R_far (p := ⟨gb261, 1, none⟩) (Kd.R_far (p := ⟨gb261, 0, none⟩) (Kd.R_mono HO_3.out (fun k_ hk => (⟨hk, hk.2⟩ : _ ∧ k_ ≠ gb261))) (fun _ hk => hk.2) (.int .i64 ((rd_T48 t248 x7_2).f0))) (fun _ hk => hk.2) (.string ((rd_T48 t248 x7_2).f1))) (fun _ hk => hk.2) (.string ((rd_T48 t248 x7_2).f2))) (fun _ h_ => h_.1))) (Kd.R_base ho32) hb); have n1_ := Aside0.mk (Kd.R_below (by (with_reducible repeat (first | apply Kd.R_alloc | apply Kd.R_drewN | apply Kd.R_drew)); exact (Kd.R_mono (Kd.R_far (p := ⟨gb261, 2, none⟩) (Kd.R_far (p := ⟨gb261, 1, none⟩) (Kd.R_far (p := ⟨gb261, 0, none⟩) (Kd.R_types HO_4.out BK261.out (by decide)) (fun _ hk => hk.2) (.int .i64 ((rd_T48 t248 x7_2).f0))) (fun _ hk => hk.2) (.string ((rd_T48 t248 x7_2).f1))) (fun _ hk => hk.2) (.string ((rd_T48 t248 x7_2).f2))) (fun _ h_ => h_.1))) hb); have n2_ := Aside0.mk (Kd.R_lower (Kd.R_newB (Kd.R_new' ho32 (Kd.R_lt (by (with_reducible repeat (first | apply Kd.R_alloc | apply Kd.R_drewN | apply Kd.R_drew)); exact (Kd.R_mono (Kd.R_far (p := ⟨gb261, 2, none⟩) (Kd.R_far (p := ⟨gb261, 1, none⟩) (Kd.R_far (p := ⟨gb261, 0, none⟩) (Kd.R_mono HO_3.out (fun k_ hk => (⟨hk, hk.2⟩ : _ ∧ k_ ≠ gb261))) (fun _ hk => hk.2) (.int .i64 ((rd_T48 t248 x7_2).f0))) (fun _ hk => hk.2) (.string ((rd_T48 t248 x7_2).f1))) (fun _ hk => hk.2) (.string ((rd_T48 t248 x7_2).f2))) (fun _ h_ => h_.1))))) (g := gb261) (o := .cells #[.int .i64 ((rd_T48 t248 x7_2).f0), .string ((rd_T48 t248 x7_2).f1), .string ((rd_T48 t248 x7_2).f2)] 48 (0, 0)) (by (with_reducible repeat (first | refine blk_drewN ?_ _ | refine blk_drew ?_ | refine blk_alloc ?_ _)); refine blk_put (cs := #[.int .i64 ((rd_T48 t248 x7_2).f0), .string ((rd_T48 t248 x7_2).f1), .string (⟨#[]⟩ : ByteArray)]) ?_ 2 _ rfl; (with_reducible repeat (first | refine blk_drewN ?_ _ | refine blk_drew ?_ | refine blk_alloc ?_ _)); refine blk_put (cs := #[.int .i64 ((rd_T48 t248 x7_2).f0), .string (⟨#[]⟩ : ByteArray), .string (⟨#[]⟩ : ByteArray)]) ?_ 1 _ rfl; (with_reducible repeat (first | refine blk_drewN ?_ _ | refine blk_drew ?_ | refine blk_alloc ?_ _)); refine blk_put (cs := #[.int .i64 0, .string (⟨#[]⟩ : ByteArray), .string (⟨#[]⟩ : ByteArray)]) ?_ 0 _ rfl; (with_reducible repeat (first | refine blk_drewN ?_ _ | refine blk_drew ?_ | refine blk_alloc ?_ _)); exact BK261.out)) (below_size (by repeat (first | (with_reducible first | exact HB.out | apply below_alloc | apply pw_below_drewN | apply below_drew1 | refine below_set ?_ GE261.out) | exact HB.out)))); have n3_ := Aside0.mk (blk_below (g := gb261) (o := .cells #[.int .i64 ((rd_T48 t248 x7_2).f0), .string ((rd_T48 t248 x7_2).f1), .string ((rd_T48 t248 x7_2).f2)] 48 (0, 0)) (by (with_reducible repeat (first | refine blk_drewN ?_ _ | refine blk_drew ?_ | refine blk_alloc ?_ _)); refine blk_put (cs := #[.int .i64 ((rd_T48 t248 x7_2).f0), .string ((rd_T48 t248 x7_2).f1), .string (⟨#[]⟩ : ByteArray)]) ?_ 2 _ rfl; (with_reducible repeat (first | refine blk_drewN ?_ _ | refine blk_drew ?_ | refine blk_alloc ?_ _)); refine blk_put (cs := #[.int .i64 ((rd_T48 t248 x7_2).f0), .string (⟨#[]⟩ : ByteArray), .string (⟨#[]⟩ : ByteArray)]) ?_ 1 _ rfl; (with_reducible repeat (first | refine blk_drewN ?_ _ | refine blk_drew ?_ | refine blk_alloc ?_ _)); refine blk_put (cs := #[.int .i64 0, .string (⟨#[]⟩ : ByteArray), .string (⟨#[]⟩ : ByteArray)]) ?_ 0 _ rfl; (with_reducible repeat (first | refine blk_drewN ?_ _ | refine blk_drew ?_ | refine blk_alloc ?_ _)); exact BK261.out) hb); have n4_ := Aside0.mk (below_step (by repeat (first | (with_reducible first | exact HB.out | apply below_alloc | apply pw_below_drewN | apply below_drew1 | refine below_set ?_ GE261.out) | exact HB.out)) hb); clear HO_3; clear HO_4; clear BK261; clear HB; have HO_3 := n0_; have HO_4 := n1_; have HO264 := n2_; have BK261 := n3_; have HB := n4_; clear n0_ n1_ n2_ n3_ n4_; clear hb ho32; obtain ⟨Ao33, co33, eo33⟩ := Kd.R_slice HO264.out; subst eo33) | ((with_reducible refine gate_callee (f := 27) rfl ?_); refine goesL_ (some 54) rfl rfl Try.func27 (by kernel_rfl) rfl #[.slice Ao33 y262.length co33, .slice Ao8 t249.length co8] rfl (by (try simp only [List.map_toArray, List.map_cons, List.map_nil]); first | done | rfl | (simp only [List.length_drop, List.length_take]; rfl)) ?_; (with_reducible refine (impl_MatchesLet.calls _ _ y262 _ _ t249 t265 _ ?side1 ?side2 ?side3 ?side4 A23.out).mono ?_); (case side1 => repeat (first | exact (Kd.R_reads' HO264.out).2.2 | (with_reducible refine Kd.C_alloc ?_ _) | (with_reducible refine Kd.C_drewN ?_ _) | (with_reducible refine Kd.C_drew ?_))); (case side2 => exact (Kd.R_reads' HO264.out).2.1); (case side3 => repeat (first | exact (Kd.R_reads' HO_4.out).2.2 | (with_reducible refine Kd.C_alloc ?_ _) | (with_reducible refine Kd.C_drewN ?_ _) | (with_reducible refine Kd.C_drew ?_))); (case side4 => exact (Kd.R_reads' HO_4.out).2.1); rintro e w34 ⟨rfl, hb⟩; refine ⟨_, rfl, ?_⟩; have n0_ := Aside0.mk (Kd.R_below (by (with_reducible repeat (first | apply Kd.R_alloc | apply Kd.R_drewN | apply Kd.R_drew)); exact HO_3.out) hb); have n1_ := Aside0.mk (Kd.R_below (by (with_reducible repeat (first | apply Kd.R_alloc | apply Kd.R_drewN | apply Kd.R_drew)); exact HO_4.out) hb); have n2_ := Aside0.mk (Kd.R_below (by (with_reducible repeat (first | apply Kd.R_alloc | apply Kd.R_drewN | apply Kd.R_drew)); exact HO264.out) hb); have n3_ := Aside0.mk (blk_below (g := gb261) (o := .cells #[.int .i64 ((rd_T48 t248 x7_2).f0), .string ((rd_T48 t248 x7_2).f1), .string ((rd_T48 t248 x7_2).f2)] 48 (0, 0)) (by (with_reducible repeat (first | refine blk_drewN ?_ _ | refine blk_drew ?_ | refine blk_alloc ?_ _)); exact BK261.out) hb); have n4_ := Aside0.mk (below_step (by repeat (first | (with_reducible first | exact HB.out | apply below_alloc | apply pw_below_drewN | apply below_drew1 | refine below_set ?_ GE261.out) | exact HB.out)) hb); clear HO_3; clear HO_4; clear HO264; clear BK261; clear HB; have HO_3 := n0_; have HO_4 := n1_; have HO264 := n2_; have BK261 := n3_; have HB := n4_; clear n0_ n1_ n2_ n3_ n4_; (try clear hb); (try clear hb2); (try clear hk); (try clear hi)) | ((with_reducible refine gate_dst (N := 59) rfl ?_); refine Kd.R_lit (Kd.int .i64) _ 3 ?hg (N := 59) ?hd (xs := ([0, 2, 1, 4, 3] : List Int)) (inner := [.int .i64 0, .int .i64 2, .int .i64 1, .int .i64 4, .int .i64 3]) (ok := fun _ => True) (okp := fun _ => True) ?hr ?hp (fun _ hk => hk) trivial (Below.refl _ _) (Nat.le_refl _) (by simp) ?_; (case hd => rfl); (case hg => rfl); (case hr => first | (go_simp; done) | (go_simp; rfl)); (case hp => exact (Reps.one (show Kd.M (Kd.int .i64) _ _ _ 0 [.int .i64 0] from rfl) (Reps.one (show Kd.M (Kd.int .i64) _ _ _ 2 [.int .i64 2] from rfl) (Reps.one (show Kd.M (Kd.int .i64) _ _ _ 1 [.int .i64 1] from rfl) (Reps.one (show Kd.M (Kd.int .i64) _ _ _ 4 [.int .i64 4] from rfl) (Reps.one (show Kd.M (Kd.int .i64) _ _ _ 3 [.int .i64 3] from rfl) (Reps.none _ _))))))); intro v267 w35 ho36 hb hg_ hnew_; clear hg_ hnew_; (first | rw [← Ny266.out] at ho36 | (simp only [Int.reduceToNat] at ho36; rw [← Ny266.out] at ho36)); have n0_ := Aside0.mk (Kd.R_below (by (with_reducible repeat (first | apply Kd.R_alloc | apply Kd.R_drewN | apply Kd.R_drew)); exact HO_3.out) hb); have n1_ := Aside0.mk (Kd.R_below (by (with_reducible repeat (first | apply Kd.R_alloc | apply Kd.R_drewN | apply Kd.R_drew)); exact HO_4.out) hb); have n2_ := Aside0.mk (Kd.R_below (by (with_reducible repeat (first | apply Kd.R_alloc | apply Kd.R_drewN | apply Kd.R_drew)); exact HO264.out) hb); have n3_ := Aside0.mk (Kd.R_lower ho36 (below_size (by repeat (first | (with_reducible first | exact HB.out | apply below_alloc | apply pw_below_drewN | apply below_drew1 | refine below_set ?_ GE261.out) | exact HB.out)))); have n4_ := Aside0.mk (blk_below (g := gb261) (o := .cells #[.int .i64 ((rd_T48 t248 x7_2).f0), .string ((rd_T48 t248 x7_2).f1), .string ((rd_T48 t248 x7_2).f2)] 48 (0, 0)) (by (with_reducible repeat (first | refine blk_drewN ?_ _ | refine blk_drew ?_ | refine blk_alloc ?_ _)); exact BK261.out) hb); have n5_ := Aside0.mk (below_step (by repeat (first | (with_reducible first | exact HB.out | apply below_alloc | apply pw_below_drewN | apply below_drew1 | refine below_set ?_ GE261.out) | exact HB.out)) hb); clear HO_3; clear HO_4; clear HO264; clear BK261; clear HB; have HO_3 := n0_; have HO_4 := n1_; have HO264 := n2_; have HO268 := n3_; have BK261 := n4_; have HB := n5_; clear n0_ n1_ n2_ n3_ n4_ n5_; clear hb ho36; have hcz37_0 : w35.cell? ⟨gb261, 0, none⟩ = some (.int .i64 ((rd_T48 t248 x7_2).f0)) := (blk_cell BK261.out 0).trans rfl; have hcz37_1 : w35.cell? ⟨gb261, 1, none⟩ = some (.string ((rd_T48 t248 x7_2).f1)) := (blk_cell BK261.out 1).trans rfl; have hcz37_2 : w35.cell? ⟨gb261, 2, none⟩ = some (.string ((rd_T48 t248 x7_2).f2)) := (blk_cell BK261.out 2).trans rfl; have hfz37_0 := blk_frozen BK261.out 0; have hfz37_1 := blk_frozen BK261.out 1; have hfz37_2 := blk_frozen BK261.out 2; obtain ⟨Ao38, co38, eo38⟩ := Kd.R_slice HO268.out; subst eo38; have p269 : 0 ≤ (((rd_T48 t248 x7_2).f0) : Int) := of_decide_eq_true (by first | (with_reducible assumption) | assumption); have q269 : ((rd_T48 t248 x7_2).f0) < (y266.length : Int) := of_decide_eq_true (by first | (with_reducible assumption) | assumption); obtain ⟨ad269, e269, hx269_0⟩ := Kd.at_int (Kd.R_reads' HO268.out).2.2 ((rd_T48 t248 x7_2).f0) p269 q269; cases e269; replace p269 := eq_true p269; replace q269 := eq_true q269) | ((with_reducible refine gate_dst (N := 66) rfl ?_); refine Kd.R_lit k48 _ 48 ?hg (N := 66) ?hd (xs := ([(⟨rd y266 ((rd_T48 t248 x7_2).f0), (rd_T48 t248 x7_2).f1, (rd_T48 t248 x7_2).f2⟩ : S48)] : List (S48))) (inner := [.int .i64 (rd y266 ((rd_T48 t248 x7_2).f0)), .string ((rd_T48 t248 x7_2).f1), .string ((rd_T48 t248 x7_2).f2)]) (ok := fun _ => True) (okp := fun _ => True) ?hr ?hp (fun _ hk => hk) trivial (Below.refl _ _) (Nat.le_refl _) (by simp) ?_; (case hd => rfl); (case hg => rfl); (case hr => first | (go_simp; done) | (go_simp; rfl)); (case hp => exact (Reps.c3 (show Kd.M k48 _ _ _ (⟨rd y266 ((rd_T48 t248 x7_2).f0), (rd_T48 t248 x7_2).f1, (rd_T48 t248 x7_2).f2⟩ : S48) [.int .i64 (rd y266 ((rd_T48 t248 x7_2).f0)), .string ((rd_T48 t248 x7_2).f1), .string ((rd_T48 t248 x7_2).f2)] from (k48_mkM _ _ _ (⟨rd y266 ((rd_T48 t248 x7_2).f0), (rd_T48 t248 x7_2).f1, (rd_T48 t248 x7_2).f2⟩ : S48) )) (Reps.none _ _))); intro v271 w39 ho40 hb hg_ hnew_; clear hg_ hnew_; (first | rw [← Ny270.out] at ho40 | (simp only [Int.reduceToNat] at ho40; rw [← Ny270.out] at ho40)); have n0_ := Aside0.mk (Kd.R_elder' (by (with_reducible repeat (first | apply Kd.R_alloc | apply Kd.R_drewN | apply Kd.R_drew)); exact (Kd.R_mono (Kd.R_far (p := ⟨gb261, 0, none⟩) (Kd.R_mono HO_3.out (fun k_ hk => (⟨hk, hk.1.2⟩ : _ ∧ k_ ≠ gb261))) (fun _ hk => hk.2) (.int .i64 (rd y266 ((rd_T48 t248 x7_2).f0)))) (fun _ h_ => h_.1))) (Kd.R_base ho40) hb); have n1_ := Aside0.mk (Kd.R_below (by (with_reducible repeat (first | apply Kd.R_alloc | apply Kd.R_drewN | apply Kd.R_drew)); exact (Kd.R_mono (Kd.R_far (p := ⟨gb261, 0, none⟩) (Kd.R_types HO_4.out BK261.out (by decide)) (fun _ hk => hk.2) (.int .i64 (rd y266 ((rd_T48 t248 x7_2).f0)))) (fun _ h_ => h_.1))) hb); have n2_ := Aside0.mk (Kd.R_elder' (by (with_reducible repeat (first | apply Kd.R_alloc | apply Kd.R_drewN | apply Kd.R_drew)); exact (Kd.R_mono (Kd.R_far (p := ⟨gb261, 0, none⟩) (Kd.R_mono HO264.out (fun k_ hk => (⟨hk, hk.2⟩ : _ ∧ k_ ≠ gb261))) (fun _ hk => hk.2) (.int .i64 (rd y266 ((rd_T48 t248 x7_2).f0)))) (fun _ h_ => h_.1))) (Kd.R_base ho40) hb); have n3_ := Aside0.mk (Kd.R_below (by (with_reducible repeat (first | apply Kd.R_alloc | apply Kd.R_drewN | apply Kd.R_drew)); exact (Kd.R_mono (Kd.R_far (p := ⟨gb261, 0, none⟩) (Kd.R_types HO268.out BK261.out (by decide)) (fun _ hk => hk.2) (.int .i64 (rd y266 ((rd_T48 t248 x7_2).f0)))) (fun _ h_ => h_.1))) hb); have n4_ := Aside0.mk (Kd.R_lower (Kd.R_newB (Kd.R_new' (Kd.R_new' ho40 (Kd.R_lt (by (with_reducible repeat (first | apply Kd.R_alloc | apply Kd.R_drewN | apply Kd.R_drew)); exact (Kd.R_mono (Kd.R_far (p := ⟨gb261, 0, none⟩) (Kd.R_mono HO_3.out (fun k_ hk => (⟨hk, hk.1.2⟩ : _ ∧ k_ ≠ gb261))) (fun _ hk => hk.2) (.int .i64 (rd y266 ((rd_T48 t248 x7_2).f0)))) (fun _ h_ => h_.1))))) (Kd.R_lt (by (with_reducible repeat (first | apply Kd.R_alloc | apply Kd.R_drewN | apply Kd.R_drew)); exact (Kd.R_mono (Kd.R_far (p := ⟨gb261, 0, none⟩) (Kd.R_mono HO264.out (fun k_ hk => (⟨hk, hk.2⟩ : _ ∧ k_ ≠ gb261))) (fun _ hk => hk.2) (.int .i64 (rd y266 ((rd_T48 t248 x7_2).f0)))) (fun _ h_ => h_.1))))) (g := gb261) (o := .cells #[.int .i64 (rd y266 ((rd_T48 t248 x7_2).f0)), .string ((rd_T48 t248 x7_2).f1), .string ((rd_T48 t248 x7_2).f2)] 48 (0, 0)) (by (with_reducible repeat (first | refine blk_drewN ?_ _ | refine blk_drew ?_ | refine blk_alloc ?_ _)); refine blk_put (cs := #[.int .i64 ((rd_T48 t248 x7_2).f0), .string ((rd_T48 t248 x7_2).f1), .string ((rd_T48 t248 x7_2).f2)]) ?_ 0 _ rfl; (with_reducible repeat (first | refine blk_drewN ?_ _ | refine blk_drew ?_ | refine blk_alloc ?_ _)); exact BK261.out)) (below_size (by repeat (first | (with_reducible first | exact HB.out | apply below_alloc | apply pw_below_drewN | apply below_drew1 | refine below_set ?_ GE261.out) | exact HB.out)))); have n5_ := Aside0.mk (blk_below (g := gb261) (o := .cells #[.int .i64 (rd y266 ((rd_T48 t248 x7_2).f0)), .string ((rd_T48 t248 x7_2).f1), .string ((rd_T48 t248 x7_2).f2)] 48 (0, 0)) (by (with_reducible repeat (first | refine blk_drewN ?_ _ | refine blk_drew ?_ | refine blk_alloc ?_ _)); refine blk_put (cs := #[.int .i64 ((rd_T48 t248 x7_2).f0), .string ((rd_T48 t248 x7_2).f1), .string ((rd_T48 t248 x7_2).f2)]) ?_ 0 _ rfl; (with_reducible repeat (first | refine blk_drewN ?_ _ | refine blk_drew ?_ | refine blk_alloc ?_ _)); exact BK261.out) hb); have n6_ := Aside0.mk (below_step (by repeat (first | (with_reducible first | exact HB.out | apply below_alloc | apply pw_below_drewN | apply below_drew1 | refine below_set ?_ GE261.out) | exact HB.out)) hb); clear HO_3; clear HO_4; clear HO264; clear HO268; clear BK261; clear HB; have HO_3 := n0_; have HO_4 := n1_; have HO264 := n2_; have HO268 := n3_; have HO272 := n4_; have BK261 := n5_; have HB := n6_; clear n0_ n1_ n2_ n3_ n4_ n5_ n6_; clear hb ho40; obtain ⟨Ao41, co41, eo41⟩ := Kd.R_slice HO272.out; subst eo41) | ((with_reducible refine gate_callee (f := 27) rfl ?_); refine goesL_ (some 68) rfl rfl Try.func27 (by kernel_rfl) rfl #[.slice Ao41 y270.length co41, .slice Ao8 t249.length co8] rfl (by (try simp only [List.map_toArray, List.map_cons, List.map_nil]); first | done | rfl | (simp only [List.length_drop, List.length_take]; rfl)) ?_; (with_reducible refine (impl_MatchesLet.calls _ _ y270 _ _ t249 t273 _ ?side1 ?side2 ?side3 ?side4 A27.out).mono ?_); (case side1 => repeat (first | exact (Kd.R_reads' HO272.out).2.2 | (with_reducible refine Kd.C_alloc ?_ _) | (with_reducible refine Kd.C_drewN ?_ _) | (with_reducible refine Kd.C_drew ?_))); (case side2 => exact (Kd.R_reads' HO272.out).2.1); (case side3 => repeat (first | exact (Kd.R_reads' HO_4.out).2.2 | (with_reducible refine Kd.C_alloc ?_ _) | (with_reducible refine Kd.C_drewN ?_ _) | (with_reducible refine Kd.C_drew ?_))); (case side4 => exact (Kd.R_reads' HO_4.out).2.1); rintro e w42 ⟨rfl, hb⟩; refine ⟨_, rfl, ?_⟩; have n0_ := Aside0.mk (Kd.R_below (by (with_reducible repeat (first | apply Kd.R_alloc | apply Kd.R_drewN | apply Kd.R_drew)); exact HO_3.out) hb); have n1_ := Aside0.mk (Kd.R_below (by (with_reducible repeat (first | apply Kd.R_alloc | apply Kd.R_drewN | apply Kd.R_drew)); exact HO_4.out) hb); have n2_ := Aside0.mk (Kd.R_below (by (with_reducible repeat (first | apply Kd.R_alloc | apply Kd.R_drewN | apply Kd.R_drew)); exact HO264.out) hb); have n3_ := Aside0.mk (Kd.R_below (by (with_reducible repeat (first | apply Kd.R_alloc | apply Kd.R_drewN | apply Kd.R_drew)); exact HO268.out) hb); have n4_ := Aside0.mk (Kd.R_below (by (with_reducible repeat (first | apply Kd.R_alloc | apply Kd.R_drewN | apply Kd.R_drew)); exact HO272.out) hb); have n5_ := Aside0.mk (blk_below (g := gb261) (o := .cells #[.int .i64 (rd y266 ((rd_T48 t248 x7_2).f0)), .string ((rd_T48 t248 x7_2).f1), .string ((rd_T48 t248 x7_2).f2)] 48 (0, 0)) (by (with_reducible repeat (first | refine blk_drewN ?_ _ | refine blk_drew ?_ | refine blk_alloc ?_ _)); exact BK261.out) hb); have n6_ := Aside0.mk (below_step (by repeat (first | (with_reducible first | exact HB.out | apply below_alloc | apply pw_below_drewN | apply below_drew1 | refine below_set ?_ GE261.out) | exact HB.out)) hb); clear HO_3; clear HO_4; clear HO264; clear HO268; clear HO272; clear BK261; clear HB; have HO_3 := n0_; have HO_4 := n1_; have HO264 := n2_; have HO268 := n3_; have HO272 := n4_; have BK261 := n5_; have HB := n6_; clear n0_ n1_ n2_ n3_ n4_ n5_ n6_; (try clear hb); (try clear hb2); (try clear hk); (try clear hi)))
                          go_roundg k2
                          case measure => have := HJ4.out; have := HK2.out; omega
                          case rel => exact ⟨(t265), (wrap64 (x7_2 + 1)), (by first | rfl | (simp; done) | (simp [*]; done) | (simp only [my_ne_nil]; rfl)), (by first | rfl | (simp; done) | (simp [*]; done) | (simp only [my_ne_nil]; rfl)), H', ⟨by have := HJ4.out; have := HK2.out; omega⟩, ⟨by (with_reducible repeat (first | apply Kd.R_alloc | apply Kd.R_drewN | apply Kd.R_drew)); exact Kd.R_mono HO_3.out (fun _ hk => trivial)⟩, ⟨by (with_reducible repeat (first | apply Kd.R_alloc | apply Kd.R_drewN | apply Kd.R_drew)); exact HO_4.out⟩, ⟨by repeat (first | (with_reducible first | exact HB.out | apply below_alloc | apply pw_below_drewN | apply below_drew1 | refine below_set ?_ GE261.out) | exact HB.out)⟩⟩
                      · rw [if_neg c26] at H
                        exact absurd H (by simp)
                    · rw [if_neg c25] at H
                      exact absurd H (by simp)
                  · replace c24 := Bool.eq_false_iff.mpr c24
                    subst c24
                    have H1 : ((some (([0, 2, 1, 4, 3] : List Int) : List Int)).bind fun y274 => (if 0 ≤ ((rd_T48 t248 x7_2).f0) then (if ((rd_T48 t248 x7_2).f0) < (y274.length : Int) then ((impl_MatchesLet.f (([(⟨rd y274 ((rd_T48 t248 x7_2).f0), (rd_T48 t248 x7_2).f1, (rd_T48 t248 x7_2).f2⟩ : S48)] : List (S48))) t249).bind fun t281 => (if (t281 == t265) = true then (some false) else (laws_FnMatchesLet.l0 k2 t248 t249 t254 false (wrap64 (x7_2 + 1))))) else (none)) else (none))) = some r := by rw [if_neg (show ¬ (false = true) by decide)] at H; exact H
                    clear H
                    have H := H1
                    clear H1
                    obtain ⟨y274, hy274⟩ : ∃ y_ : List Int, y_ = (([0, 2, 1, 4, 3] : List Int)) := ⟨_, rfl⟩
                    replace H : (if 0 ≤ ((rd_T48 t248 x7_2).f0) then (if ((rd_T48 t248 x7_2).f0) < (y274.length : Int) then ((impl_MatchesLet.f (([(⟨rd y274 ((rd_T48 t248 x7_2).f0), (rd_T48 t248 x7_2).f1, (rd_T48 t248 x7_2).f2⟩ : S48)] : List (S48))) t249).bind fun t281 => (if (t281 == t265) = true then (some false) else (laws_FnMatchesLet.l0 k2 t248 t249 t254 false (wrap64 (x7_2 + 1))))) else (none)) else (none)) = some r := by first | (rw [hy274]; with_reducible exact H) | (have H2_ := (Option.bind_some _ _).symm.trans H; rw [hy274]; with_reducible exact H2_) | (have H2_ := (Option.bind_some _ _).symm.trans H; with_reducible exact H2_) | with_reducible exact H | (rw [hy274]; exact H) | exact H
                    have Ny274 := Aside0.mk hy274
                    clear hy274
                    by_cases c43 : 0 ≤ ((rd_T48 t248 x7_2).f0)
                    · rw [if_pos c43] at H
                      have c43b0 : decide (0 ≤ ((rd_T48 t248 x7_2).f0)) = true := decide_eq_true c43
                      clear c43
                      by_cases c44 : ((rd_T48 t248 x7_2).f0) < (y274.length : Int)
                      · rw [if_pos c44] at H
                        have c44b0 : decide (((rd_T48 t248 x7_2).f0) < (y274.length : Int)) = true := decide_eq_true c44
                        clear c44
                        obtain ⟨y278, hy278⟩ : ∃ y_ : List (S48), y_ = (([(⟨rd y274 ((rd_T48 t248 x7_2).f0), (rd_T48 t248 x7_2).f1, (rd_T48 t248 x7_2).f2⟩ : S48)] : List (S48))) := ⟨_, rfl⟩
                        replace H : ((impl_MatchesLet.f y278 t249).bind fun t281 => (if (t281 == t265) = true then (some false) else (laws_FnMatchesLet.l0 k2 t248 t249 t254 false (wrap64 (x7_2 + 1))))) = some r := by first | (rw [hy278]; with_reducible exact H) | (have H2_ := (Option.bind_some _ _).symm.trans H; rw [hy278]; with_reducible exact H2_) | (have H2_ := (Option.bind_some _ _).symm.trans H; with_reducible exact H2_) | with_reducible exact H | (rw [hy278]; exact H) | exact H
                        have Ny278 := Aside0.mk hy278
                        clear hy278
                        replace H := Option.bind_eq_some_iff.mp H
                        obtain ⟨t281, A450, H⟩ := H
                        replace H : (if (t281 == t265) = true then (some false) else (laws_FnMatchesLet.l0 k2 t248 t249 t254 false (wrap64 (x7_2 + 1)))) = some r := H
                        have A45 := Aside0.mk A450
                        clear A450
                        by_cases c46 : (t281 == t265) = true
                        · rw [if_pos c46] at H
                          have c46b0 : (t281 == t265) = true := c46
                          (try (have c46b1 : decide (t281 = t265) = true := by simpa using c46))
                          (try (have c46b2 : (t281 == t265) = true := by simpa using c46))
                          clear c46
                          exact absurd (show some false = some true from (by have h_ := H; rw [HT.out] at h_; exact h_)) (by simp)
                        · rw [if_neg c46] at H
                          have c46b0 : (t281 == t265) = false := by simpa using c46
                          (try (have c46b1 : decide (t281 = t265) = false := by simpa using c46))
                          (try (have c46b2 : (t281 == t265) = false := by simpa using c46))
                          (try (have c46b3 : ¬ (t281 = t265) := by simpa using c46))
                          clear c46
                          have H' := Aside0.mk H
                          clear H
                          have p260 : 0 ≤ (x7_2 : Int) := of_decide_eq_true (by first | (with_reducible assumption) | assumption)
                          have q260 : x7_2 < (t248.length : Int) := of_decide_eq_true (by first | (with_reducible assumption) | assumption)
                          obtain ⟨ad260, e260, hx260_0, hx260_1, hx260_2⟩ := at_T48 (Kd.R_reads' HO_3.out).2.2 x7_2 p260 q260
                          cases e260
                          replace p260 := eq_true p260
                          replace q260 := eq_true q260
                          go_wp2_with (first | ((with_reducible refine gate_dst (N := 8) rfl ?_); refine box_event ?hg (N := 8) ?hd (cs := #[.int .i64 0, .string (⟨#[]⟩ : ByteArray), .string (⟨#[]⟩ : ByteArray)]) (t := 48) ?hr ?_; (case hd => rfl); (case hg => rfl); (case hr => first | (go_simp; done) | (go_simp; rfl)); intro gb261 hg w47 hbox hb; have n0_ := Aside0.mk (Kd.R_below (Kd.R_elderB (by (with_reducible repeat (first | apply Kd.R_alloc | apply Kd.R_drewN | apply Kd.R_drew)); exact HO_3.out) gb261 (Nat.le_of_eq hg.symm)) hb); have n1_ := Aside0.mk (Kd.R_below (by (with_reducible repeat (first | apply Kd.R_alloc | apply Kd.R_drewN | apply Kd.R_drew)); exact HO_4.out) hb); have n2_ := Aside0.mk (below_step (by repeat (first | (with_reducible first | exact HB.out | apply below_alloc | apply pw_below_drewN | apply below_drew1) | exact HB.out)) hb); have n3_ := Aside0.mk (hbox); have n4_ := Aside0.mk ((by rw [hg]; exact (below_size (by repeat (first | (with_reducible first | exact HB.out | apply below_alloc | apply pw_below_drewN | apply below_drew1) | exact HB.out))) : w.heap.size ≤ gb261)); have n5_ := Aside0.mk ((by rw [hg]; exact (below_size (by repeat (first | (with_reducible first | exact HB.out | apply below_alloc | apply pw_below_drewN | apply below_drew1) | exact HB.out))) : w.heap.size ≤ gb261)); clear HO_3; clear HO_4; clear HB; have HO_3 := n0_; have HO_4 := n1_; have HB := n2_; have BK261 := n3_; have GW261 := n4_; have GE261 := n5_; clear n0_ n1_ n2_ n3_ n4_ n5_; clear hb hbox hg; have hcz48_0 : w47.cell? ⟨gb261, 0, none⟩ = some (.int .i64 0) := (blk_cell BK261.out 0).trans rfl; have hcz48_1 : w47.cell? ⟨gb261, 1, none⟩ = some (.string (⟨#[]⟩ : ByteArray)) := (blk_cell BK261.out 1).trans rfl; have hcz48_2 : w47.cell? ⟨gb261, 2, none⟩ = some (.string (⟨#[]⟩ : ByteArray)) := (blk_cell BK261.out 2).trans rfl; have hfz48_0 := blk_frozen BK261.out 0; have hfz48_1 := blk_frozen BK261.out 1; have hfz48_2 := blk_frozen BK261.out 2) | ((with_reducible refine gate_dst (N := 52) rfl ?_); refine Kd.R_lit k48 _ 48 ?hg (N := 52) ?hd (xs := ([(⟨(rd_T48 t248 x7_2).f0, (rd_T48 t248 x7_2).f1, (rd_T48 t248 x7_2).f2⟩ : S48)] : List (S48))) (inner := [.int .i64 ((rd_T48 t248 x7_2).f0), .string ((rd_T48 t248 x7_2).f1), .string ((rd_T48 t248 x7_2).f2)]) (ok := fun _ => True) (okp := fun _ => True) ?hr ?hp (fun _ hk => hk) trivial (Below.refl _ _) (Nat.le_refl _) (by simp) ?_; (case hd => rfl); (case hg => rfl); (case hr => first | (go_simp; done) | (go_simp; rfl)); (case hp => exact (Reps.c3 (show Kd.M k48 _ _ _ (⟨(rd_T48 t248 x7_2).f0, (rd_T48 t248 x7_2).f1, (rd_T48 t248 x7_2).f2⟩ : S48) [.int .i64 ((rd_T48 t248 x7_2).f0), .string ((rd_T48 t248 x7_2).f1), .string ((rd_T48 t248 x7_2).f2)] from (k48_mkM _ _ _ (⟨(rd_T48 t248 x7_2).f0, (rd_T48 t248 x7_2).f1, (rd_T48 t248 x7_2).f2⟩ : S48) )) (Reps.none _ _))); intro v263 w49 ho50 hb hg_ hnew_; clear hg_ hnew_; (first | rw [← Ny262.out] at ho50 | (simp only [Int.reduceToNat] at ho50; rw [← Ny262.out] at ho50)); have n0_ := Aside0.mk (Kd.R_elder' (by (with_reducible repeat (first | apply Kd.R_alloc | apply Kd.R_drewN | apply Kd.R_drew)); exact (Kd.R_mono (Kd.R_far (p := ⟨gb261, 2, none⟩) (Kd.R_far (p := ⟨gb261, 1, none⟩) (Kd.R_far (p := ⟨gb261, 0, none⟩) (Kd.R_mono HO_3.out (fun k_ hk => (⟨hk, hk.2⟩ : _ ∧ k_ ≠ gb261))) (fun _ hk => hk.2) (.int .i64 ((rd_T48 t248 x7_2).f0))) (fun _ hk => hk.2) (.string ((rd_T48 t248 x7_2).f1))) (fun _ hk => hk.2) (.string ((rd_T48 t248 x7_2).f2))) (fun _ h_ => h_.1))) (Kd.R_base ho50) hb); have n1_ := Aside0.mk (Kd.R_below (by (with_reducible repeat (first | apply Kd.R_alloc | apply Kd.R_drewN | apply Kd.R_drew)); exact (Kd.R_mono (Kd.R_far (p := ⟨gb261, 2, none⟩) (Kd.R_far (p := ⟨gb261, 1, none⟩) (Kd.R_far (p := ⟨gb261, 0, none⟩) (Kd.R_types HO_4.out BK261.out (by decide)) (fun _ hk => hk.2) (.int .i64 ((rd_T48 t248 x7_2).f0))) (fun _ hk => hk.2) (.string ((rd_T48 t248 x7_2).f1))) (fun _ hk => hk.2) (.string ((rd_T48 t248 x7_2).f2))) (fun _ h_ => h_.1))) hb); have n2_ := Aside0.mk (Kd.R_lower (Kd.R_newB (Kd.R_new' ho50 (Kd.R_lt (by (with_reducible repeat (first | apply Kd.R_alloc | apply Kd.R_drewN | apply Kd.R_drew)); exact (Kd.R_mono (Kd.R_far (p := ⟨gb261, 2, none⟩) (Kd.R_far (p := ⟨gb261, 1, none⟩) (Kd.R_far (p := ⟨gb261, 0, none⟩) (Kd.R_mono HO_3.out (fun k_ hk => (⟨hk, hk.2⟩ : _ ∧ k_ ≠ gb261))) (fun _ hk => hk.2) (.int .i64 ((rd_T48 t248 x7_2).f0))) (fun _ hk => hk.2) (.string ((rd_T48 t248 x7_2).f1))) (fun _ hk => hk.2) (.string ((rd_T48 t248 x7_2).f2))) (fun _ h_ => h_.1))))) (g := gb261) (o := .cells #[.int .i64 ((rd_T48 t248 x7_2).f0), .string ((rd_T48 t248 x7_2).f1), .string ((rd_T48 t248 x7_2).f2)] 48 (0, 0)) (by (with_reducible repeat (first | refine blk_drewN ?_ _ | refine blk_drew ?_ | refine blk_alloc ?_ _)); refine blk_put (cs := #[.int .i64 ((rd_T48 t248 x7_2).f0), .string ((rd_T48 t248 x7_2).f1), .string (⟨#[]⟩ : ByteArray)]) ?_ 2 _ rfl; (with_reducible repeat (first | refine blk_drewN ?_ _ | refine blk_drew ?_ | refine blk_alloc ?_ _)); refine blk_put (cs := #[.int .i64 ((rd_T48 t248 x7_2).f0), .string (⟨#[]⟩ : ByteArray), .string (⟨#[]⟩ : ByteArray)]) ?_ 1 _ rfl; (with_reducible repeat (first | refine blk_drewN ?_ _ | refine blk_drew ?_ | refine blk_alloc ?_ _)); refine blk_put (cs := #[.int .i64 0, .string (⟨#[]⟩ : ByteArray), .string (⟨#[]⟩ : ByteArray)]) ?_ 0 _ rfl; (with_reducible repeat (first | refine blk_drewN ?_ _ | refine blk_drew ?_ | refine blk_alloc ?_ _)); exact BK261.out)) (below_size (by repeat (first | (with_reducible first | exact HB.out | apply below_alloc | apply pw_below_drewN | apply below_drew1 | refine below_set ?_ GE261.out) | exact HB.out)))); have n3_ := Aside0.mk (blk_below (g := gb261) (o := .cells #[.int .i64 ((rd_T48 t248 x7_2).f0), .string ((rd_T48 t248 x7_2).f1), .string ((rd_T48 t248 x7_2).f2)] 48 (0, 0)) (by (with_reducible repeat (first | refine blk_drewN ?_ _ | refine blk_drew ?_ | refine blk_alloc ?_ _)); refine blk_put (cs := #[.int .i64 ((rd_T48 t248 x7_2).f0), .string ((rd_T48 t248 x7_2).f1), .string (⟨#[]⟩ : ByteArray)]) ?_ 2 _ rfl; (with_reducible repeat (first | refine blk_drewN ?_ _ | refine blk_drew ?_ | refine blk_alloc ?_ _)); refine blk_put (cs := #[.int .i64 ((rd_T48 t248 x7_2).f0), .string (⟨#[]⟩ : ByteArray), .string (⟨#[]⟩ : ByteArray)]) ?_ 1 _ rfl; (with_reducible repeat (first | refine blk_drewN ?_ _ | refine blk_drew ?_ | refine blk_alloc ?_ _)); refine blk_put (cs := #[.int .i64 0, .string (⟨#[]⟩ : ByteArray), .string (⟨#[]⟩ : ByteArray)]) ?_ 0 _ rfl; (with_reducible repeat (first | refine blk_drewN ?_ _ | refine blk_drew ?_ | refine blk_alloc ?_ _)); exact BK261.out) hb); have n4_ := Aside0.mk (below_step (by repeat (first | (with_reducible first | exact HB.out | apply below_alloc | apply pw_below_drewN | apply below_drew1 | refine below_set ?_ GE261.out) | exact HB.out)) hb); clear HO_3; clear HO_4; clear BK261; clear HB; have HO_3 := n0_; have HO_4 := n1_; have HO264 := n2_; have BK261 := n3_; have HB := n4_; clear n0_ n1_ n2_ n3_ n4_; clear hb ho50; obtain ⟨Ao51, co51, eo51⟩ := Kd.R_slice HO264.out; subst eo51) | ((with_reducible refine gate_callee (f := 27) rfl ?_); refine goesL_ (some 54) rfl rfl Try.func27 (by kernel_rfl) rfl #[.slice Ao51 y262.length co51, .slice Ao8 t249.length co8] rfl (by (try simp only [List.map_toArray, List.map_cons, List.map_nil]); first | done | rfl | (simp only [List.length_drop, List.length_take]; rfl)) ?_; (with_reducible refine (impl_MatchesLet.calls _ _ y262 _ _ t249 t265 _ ?side1 ?side2 ?side3 ?side4 A23.out).mono ?_); (case side1 => repeat (first | exact (Kd.R_reads' HO264.out).2.2 | (with_reducible refine Kd.C_alloc ?_ _) | (with_reducible refine Kd.C_drewN ?_ _) | (with_reducible refine Kd.C_drew ?_))); (case side2 => exact (Kd.R_reads' HO264.out).2.1); (case side3 => repeat (first | exact (Kd.R_reads' HO_4.out).2.2 | (with_reducible refine Kd.C_alloc ?_ _) | (with_reducible refine Kd.C_drewN ?_ _) | (with_reducible refine Kd.C_drew ?_))); (case side4 => exact (Kd.R_reads' HO_4.out).2.1); rintro e w52 ⟨rfl, hb⟩; refine ⟨_, rfl, ?_⟩; have n0_ := Aside0.mk (Kd.R_below (by (with_reducible repeat (first | apply Kd.R_alloc | apply Kd.R_drewN | apply Kd.R_drew)); exact HO_3.out) hb); have n1_ := Aside0.mk (Kd.R_below (by (with_reducible repeat (first | apply Kd.R_alloc | apply Kd.R_drewN | apply Kd.R_drew)); exact HO_4.out) hb); have n2_ := Aside0.mk (Kd.R_below (by (with_reducible repeat (first | apply Kd.R_alloc | apply Kd.R_drewN | apply Kd.R_drew)); exact HO264.out) hb); have n3_ := Aside0.mk (blk_below (g := gb261) (o := .cells #[.int .i64 ((rd_T48 t248 x7_2).f0), .string ((rd_T48 t248 x7_2).f1), .string ((rd_T48 t248 x7_2).f2)] 48 (0, 0)) (by (with_reducible repeat (first | refine blk_drewN ?_ _ | refine blk_drew ?_ | refine blk_alloc ?_ _)); exact BK261.out) hb); have n4_ := Aside0.mk (below_step (by repeat (first | (with_reducible first | exact HB.out | apply below_alloc | apply pw_below_drewN | apply below_drew1 | refine below_set ?_ GE261.out) | exact HB.out)) hb); clear HO_3; clear HO_4; clear HO264; clear BK261; clear HB; have HO_3 := n0_; have HO_4 := n1_; have HO264 := n2_; have BK261 := n3_; have HB := n4_; clear n0_ n1_ n2_ n3_ n4_; (try clear hb); (try clear hb2); (try clear hk); (try clear hi)) | ((with_reducible refine gate_dst (N := 59) rfl ?_); refine Kd.R_lit (Kd.int .i64) _ 3 ?hg (N := 59) ?hd (xs := ([0, 2, 1, 4, 3] : List Int)) (inner := [.int .i64 0, .int .i64 2, .int .i64 1, .int .i64 4, .int .i64 3]) (ok := fun _ => True) (okp := fun _ => True) ?hr ?hp (fun _ hk => hk) trivial (Below.refl _ _) (Nat.le_refl _) (by simp) ?_; (case hd => rfl); (case hg => rfl); (case hr => first | (go_simp; done) | (go_simp; rfl)); (case hp => exact (Reps.one (show Kd.M (Kd.int .i64) _ _ _ 0 [.int .i64 0] from rfl) (Reps.one (show Kd.M (Kd.int .i64) _ _ _ 2 [.int .i64 2] from rfl) (Reps.one (show Kd.M (Kd.int .i64) _ _ _ 1 [.int .i64 1] from rfl) (Reps.one (show Kd.M (Kd.int .i64) _ _ _ 4 [.int .i64 4] from rfl) (Reps.one (show Kd.M (Kd.int .i64) _ _ _ 3 [.int .i64 3] from rfl) (Reps.none _ _))))))); intro v275 w53 ho54 hb hg_ hnew_; clear hg_ hnew_; (first | rw [← Ny274.out] at ho54 | (simp only [Int.reduceToNat] at ho54; rw [← Ny274.out] at ho54)); have n0_ := Aside0.mk (Kd.R_below (by (with_reducible repeat (first | apply Kd.R_alloc | apply Kd.R_drewN | apply Kd.R_drew)); exact HO_3.out) hb); have n1_ := Aside0.mk (Kd.R_below (by (with_reducible repeat (first | apply Kd.R_alloc | apply Kd.R_drewN | apply Kd.R_drew)); exact HO_4.out) hb); have n2_ := Aside0.mk (Kd.R_below (by (with_reducible repeat (first | apply Kd.R_alloc | apply Kd.R_drewN | apply Kd.R_drew)); exact HO264.out) hb); have n3_ := Aside0.mk (Kd.R_lower ho54 (below_size (by repeat (first | (with_reducible first | exact HB.out | apply below_alloc | apply pw_below_drewN | apply below_drew1 | refine below_set ?_ GE261.out) | exact HB.out)))); have n4_ := Aside0.mk (blk_below (g := gb261) (o := .cells #[.int .i64 ((rd_T48 t248 x7_2).f0), .string ((rd_T48 t248 x7_2).f1), .string ((rd_T48 t248 x7_2).f2)] 48 (0, 0)) (by (with_reducible repeat (first | refine blk_drewN ?_ _ | refine blk_drew ?_ | refine blk_alloc ?_ _)); exact BK261.out) hb); have n5_ := Aside0.mk (below_step (by repeat (first | (with_reducible first | exact HB.out | apply below_alloc | apply pw_below_drewN | apply below_drew1 | refine below_set ?_ GE261.out) | exact HB.out)) hb); clear HO_3; clear HO_4; clear HO264; clear BK261; clear HB; have HO_3 := n0_; have HO_4 := n1_; have HO264 := n2_; have HO276 := n3_; have BK261 := n4_; have HB := n5_; clear n0_ n1_ n2_ n3_ n4_ n5_; clear hb ho54; have hcz55_0 : w53.cell? ⟨gb261, 0, none⟩ = some (.int .i64 ((rd_T48 t248 x7_2).f0)) := (blk_cell BK261.out 0).trans rfl; have hcz55_1 : w53.cell? ⟨gb261, 1, none⟩ = some (.string ((rd_T48 t248 x7_2).f1)) := (blk_cell BK261.out 1).trans rfl; have hcz55_2 : w53.cell? ⟨gb261, 2, none⟩ = some (.string ((rd_T48 t248 x7_2).f2)) := (blk_cell BK261.out 2).trans rfl; have hfz55_0 := blk_frozen BK261.out 0; have hfz55_1 := blk_frozen BK261.out 1; have hfz55_2 := blk_frozen BK261.out 2; obtain ⟨Ao56, co56, eo56⟩ := Kd.R_slice HO276.out; subst eo56; have p277 : 0 ≤ (((rd_T48 t248 x7_2).f0) : Int) := of_decide_eq_true (by first | (with_reducible assumption) | assumption); have q277 : ((rd_T48 t248 x7_2).f0) < (y274.length : Int) := of_decide_eq_true (by first | (with_reducible assumption) | assumption); obtain ⟨ad277, e277, hx277_0⟩ := Kd.at_int (Kd.R_reads' HO276.out).2.2 ((rd_T48 t248 x7_2).f0) p277 q277; cases e277; replace p277 := eq_true p277; replace q277 := eq_true q277) | ((with_reducible refine gate_dst (N := 66) rfl ?_); refine Kd.R_lit k48 _ 48 ?hg (N := 66) ?hd (xs := ([(⟨rd y274 ((rd_T48 t248 x7_2).f0), (rd_T48 t248 x7_2).f1, (rd_T48 t248 x7_2).f2⟩ : S48)] : List (S48))) (inner := [.int .i64 (rd y274 ((rd_T48 t248 x7_2).f0)), .string ((rd_T48 t248 x7_2).f1), .string ((rd_T48 t248 x7_2).f2)]) (ok := fun _ => True) (okp := fun _ => True) ?hr ?hp (fun _ hk => hk) trivial (Below.refl _ _) (Nat.le_refl _) (by simp) ?_; (case hd => rfl); (case hg => rfl); (case hr => first | (go_simp; done) | (go_simp; rfl)); (case hp => exact (Reps.c3 (show Kd.M k48 _ _ _ (⟨rd y274 ((rd_T48 t248 x7_2).f0), (rd_T48 t248 x7_2).f1, (rd_T48 t248 x7_2).f2⟩ : S48) [.int .i64 (rd y274 ((rd_T48 t248 x7_2).f0)), .string ((rd_T48 t248 x7_2).f1), .string ((rd_T48 t248 x7_2).f2)] from (k48_mkM _ _ _ (⟨rd y274 ((rd_T48 t248 x7_2).f0), (rd_T48 t248 x7_2).f1, (rd_T48 t248 x7_2).f2⟩ : S48) )) (Reps.none _ _))); intro v279 w57 ho58 hb hg_ hnew_; clear hg_ hnew_; (first | rw [← Ny278.out] at ho58 | (simp only [Int.reduceToNat] at ho58; rw [← Ny278.out] at ho58)); have n0_ := Aside0.mk (Kd.R_elder' (by (with_reducible repeat (first | apply Kd.R_alloc | apply Kd.R_drewN | apply Kd.R_drew)); exact (Kd.R_mono (Kd.R_far (p := ⟨gb261, 0, none⟩) (Kd.R_mono HO_3.out (fun k_ hk => (⟨hk, hk.1.2⟩ : _ ∧ k_ ≠ gb261))) (fun _ hk => hk.2) (.int .i64 (rd y274 ((rd_T48 t248 x7_2).f0)))) (fun _ h_ => h_.1))) (Kd.R_base ho58) hb); have n1_ := Aside0.mk (Kd.R_below (by (with_reducible repeat (first | apply Kd.R_alloc | apply Kd.R_drewN | apply Kd.R_drew)); exact (Kd.R_mono (Kd.R_far (p := ⟨gb261, 0, none⟩) (Kd.R_types HO_4.out BK261.out (by decide)) (fun _ hk => hk.2) (.int .i64 (rd y274 ((rd_T48 t248 x7_2).f0)))) (fun _ h_ => h_.1))) hb); have n2_ := Aside0.mk (Kd.R_elder' (by (with_reducible repeat (first | apply Kd.R_alloc | apply Kd.R_drewN | apply Kd.R_drew)); exact (Kd.R_mono (Kd.R_far (p := ⟨gb261, 0, none⟩) (Kd.R_mono HO264.out (fun k_ hk => (⟨hk, hk.2⟩ : _ ∧ k_ ≠ gb261))) (fun _ hk => hk.2) (.int .i64 (rd y274 ((rd_T48 t248 x7_2).f0)))) (fun _ h_ => h_.1))) (Kd.R_base ho58) hb); have n3_ := Aside0.mk (Kd.R_below (by (with_reducible repeat (first | apply Kd.R_alloc | apply Kd.R_drewN | apply Kd.R_drew)); exact (Kd.R_mono (Kd.R_far (p := ⟨gb261, 0, none⟩) (Kd.R_types HO276.out BK261.out (by decide)) (fun _ hk => hk.2) (.int .i64 (rd y274 ((rd_T48 t248 x7_2).f0)))) (fun _ h_ => h_.1))) hb); have n4_ := Aside0.mk (Kd.R_lower (Kd.R_newB (Kd.R_new' (Kd.R_new' ho58 (Kd.R_lt (by (with_reducible repeat (first | apply Kd.R_alloc | apply Kd.R_drewN | apply Kd.R_drew)); exact (Kd.R_mono (Kd.R_far (p := ⟨gb261, 0, none⟩) (Kd.R_mono HO_3.out (fun k_ hk => (⟨hk, hk.1.2⟩ : _ ∧ k_ ≠ gb261))) (fun _ hk => hk.2) (.int .i64 (rd y274 ((rd_T48 t248 x7_2).f0)))) (fun _ h_ => h_.1))))) (Kd.R_lt (by (with_reducible repeat (first | apply Kd.R_alloc | apply Kd.R_drewN | apply Kd.R_drew)); exact (Kd.R_mono (Kd.R_far (p := ⟨gb261, 0, none⟩) (Kd.R_mono HO264.out (fun k_ hk => (⟨hk, hk.2⟩ : _ ∧ k_ ≠ gb261))) (fun _ hk => hk.2) (.int .i64 (rd y274 ((rd_T48 t248 x7_2).f0)))) (fun _ h_ => h_.1))))) (g := gb261) (o := .cells #[.int .i64 (rd y274 ((rd_T48 t248 x7_2).f0)), .string ((rd_T48 t248 x7_2).f1), .string ((rd_T48 t248 x7_2).f2)] 48 (0, 0)) (by (with_reducible repeat (first | refine blk_drewN ?_ _ | refine blk_drew ?_ | refine blk_alloc ?_ _)); refine blk_put (cs := #[.int .i64 ((rd_T48 t248 x7_2).f0), .string ((rd_T48 t248 x7_2).f1), .string ((rd_T48 t248 x7_2).f2)]) ?_ 0 _ rfl; (with_reducible repeat (first | refine blk_drewN ?_ _ | refine blk_drew ?_ | refine blk_alloc ?_ _)); exact BK261.out)) (below_size (by repeat (first | (with_reducible first | exact HB.out | apply below_alloc | apply pw_below_drewN | apply below_drew1 | refine below_set ?_ GE261.out) | exact HB.out)))); have n5_ := Aside0.mk (blk_below (g := gb261) (o := .cells #[.int .i64 (rd y274 ((rd_T48 t248 x7_2).f0)), .string ((rd_T48 t248 x7_2).f1), .string ((rd_T48 t248 x7_2).f2)] 48 (0, 0)) (by (with_reducible repeat (first | refine blk_drewN ?_ _ | refine blk_drew ?_ | refine blk_alloc ?_ _)); refine blk_put (cs := #[.int .i64 ((rd_T48 t248 x7_2).f0), .string ((rd_T48 t248 x7_2).f1), .string ((rd_T48 t248 x7_2).f2)]) ?_ 0 _ rfl; (with_reducible repeat (first | refine blk_drewN ?_ _ | refine blk_drew ?_ | refine blk_alloc ?_ _)); exact BK261.out) hb); have n6_ := Aside0.mk (below_step (by repeat (first | (with_reducible first | exact HB.out | apply below_alloc | apply pw_below_drewN | apply below_drew1 | refine below_set ?_ GE261.out) | exact HB.out)) hb); clear HO_3; clear HO_4; clear HO264; clear HO276; clear BK261; clear HB; have HO_3 := n0_; have HO_4 := n1_; have HO264 := n2_; have HO276 := n3_; have HO280 := n4_; have BK261 := n5_; have HB := n6_; clear n0_ n1_ n2_ n3_ n4_ n5_ n6_; clear hb ho58; obtain ⟨Ao59, co59, eo59⟩ := Kd.R_slice HO280.out; subst eo59) | ((with_reducible refine gate_callee (f := 27) rfl ?_); refine goesL_ (some 68) rfl rfl Try.func27 (by kernel_rfl) rfl #[.slice Ao59 y278.length co59, .slice Ao8 t249.length co8] rfl (by (try simp only [List.map_toArray, List.map_cons, List.map_nil]); first | done | rfl | (simp only [List.length_drop, List.length_take]; rfl)) ?_; (with_reducible refine (impl_MatchesLet.calls _ _ y278 _ _ t249 t281 _ ?side1 ?side2 ?side3 ?side4 A45.out).mono ?_); (case side1 => repeat (first | exact (Kd.R_reads' HO280.out).2.2 | (with_reducible refine Kd.C_alloc ?_ _) | (with_reducible refine Kd.C_drewN ?_ _) | (with_reducible refine Kd.C_drew ?_))); (case side2 => exact (Kd.R_reads' HO280.out).2.1); (case side3 => repeat (first | exact (Kd.R_reads' HO_4.out).2.2 | (with_reducible refine Kd.C_alloc ?_ _) | (with_reducible refine Kd.C_drewN ?_ _) | (with_reducible refine Kd.C_drew ?_))); (case side4 => exact (Kd.R_reads' HO_4.out).2.1); rintro e w60 ⟨rfl, hb⟩; refine ⟨_, rfl, ?_⟩; have n0_ := Aside0.mk (Kd.R_below (by (with_reducible repeat (first | apply Kd.R_alloc | apply Kd.R_drewN | apply Kd.R_drew)); exact HO_3.out) hb); have n1_ := Aside0.mk (Kd.R_below (by (with_reducible repeat (first | apply Kd.R_alloc | apply Kd.R_drewN | apply Kd.R_drew)); exact HO_4.out) hb); have n2_ := Aside0.mk (Kd.R_below (by (with_reducible repeat (first | apply Kd.R_alloc | apply Kd.R_drewN | apply Kd.R_drew)); exact HO264.out) hb); have n3_ := Aside0.mk (Kd.R_below (by (with_reducible repeat (first | apply Kd.R_alloc | apply Kd.R_drewN | apply Kd.R_drew)); exact HO276.out) hb); have n4_ := Aside0.mk (Kd.R_below (by (with_reducible repeat (first | apply Kd.R_alloc | apply Kd.R_drewN | apply Kd.R_drew)); exact HO280.out) hb); have n5_ := Aside0.mk (blk_below (g := gb261) (o := .cells #[.int .i64 (rd y274 ((rd_T48 t248 x7_2).f0)), .string ((rd_T48 t248 x7_2).f1), .string ((rd_T48 t248 x7_2).f2)] 48 (0, 0)) (by (with_reducible repeat (first | refine blk_drewN ?_ _ | refine blk_drew ?_ | refine blk_alloc ?_ _)); exact BK261.out) hb); have n6_ := Aside0.mk (below_step (by repeat (first | (with_reducible first | exact HB.out | apply below_alloc | apply pw_below_drewN | apply below_drew1 | refine below_set ?_ GE261.out) | exact HB.out)) hb); clear HO_3; clear HO_4; clear HO264; clear HO276; clear HO280; clear BK261; clear HB; have HO_3 := n0_; have HO_4 := n1_; have HO264 := n2_; have HO276 := n3_; have HO280 := n4_; have BK261 := n5_; have HB := n6_; clear n0_ n1_ n2_ n3_ n4_ n5_ n6_; (try clear hb); (try clear hb2); (try clear hk); (try clear hi)))
                          go_roundg k2
                          case measure => have := HJ4.out; have := HK2.out; omega
                          case rel => exact ⟨(false), (wrap64 (x7_2 + 1)), (by first | rfl | (simp; done) | (simp [*]; done) | (simp only [my_ne_nil]; rfl)), (by first | rfl | (simp; done) | (simp [*]; done) | (simp only [my_ne_nil]; rfl)), H', ⟨by have := HJ4.out; have := HK2.out; omega⟩, ⟨by (with_reducible repeat (first | apply Kd.R_alloc | apply Kd.R_drewN | apply Kd.R_drew)); exact Kd.R_mono HO_3.out (fun _ hk => trivial)⟩, ⟨by (with_reducible repeat (first | apply Kd.R_alloc | apply Kd.R_drewN | apply Kd.R_drew)); exact HO_4.out⟩, ⟨by repeat (first | (with_reducible first | exact HB.out | apply below_alloc | apply pw_below_drewN | apply below_drew1 | refine below_set ?_ GE261.out) | exact HB.out)⟩⟩
                      · rw [if_neg c44] at H
                        exact absurd H (by simp)
                    · rw [if_neg c43] at H
                      exact absurd H (by simp)
                · rw [if_neg c22] at H
                  exact absurd H (by simp)
              · rw [if_neg c21] at H
                have c21b0 : decide (x7_2 < (t248.length : Int)) = false := decide_eq_false c21
                clear c21
                by_cases c61 : (t254 == x6_2) = true
                · rw [if_pos c61] at H
                  have c61b0 : (t254 == x6_2) = true := c61
                  (try (have c61b1 : decide (t254 = x6_2) = true := by simpa using c61))
                  (try (have c61b2 : (t254 == x6_2) = true := by simpa using c61))
                  clear c61
                  replace H := Option.bind_eq_some_iff.mp H
                  obtain ⟨t259, A620, H⟩ := H
                  replace H : (some t259) = some r := H
                  have A62 := Aside0.mk A620
                  clear A620
                  obtain rfl := Option.some.inj H
                  go_wp2_with (first | (go_at_call 27; (refine (impl_MatchesLet.calls _ _ ([] : List (S48)) _ _ t249 t259 _ ?side1 ?side2 ?side3 ?side4 A62.out).mono ?_); (case side1 => exact Kd.C_nil _ _); (case side2 => exact Nat.le_refl _); (case side3 => repeat (first | exact (Kd.R_reads' HO_4.out).2.2 | (with_reducible refine Kd.C_alloc ?_ _) | (with_reducible refine Kd.C_drewN ?_ _) | (with_reducible refine Kd.C_drew ?_))); (case side4 => exact (Kd.R_reads' HO_4.out).2.1); rintro e w63 ⟨rfl, hb⟩; have n0_ := Aside0.mk (Kd.R_below (by (with_reducible repeat (first | apply Kd.R_alloc | apply Kd.R_drewN | apply Kd.R_drew)); exact HO_3.out) hb); have n1_ := Aside0.mk (Kd.R_below (by (with_reducible repeat (first | apply Kd.R_alloc | apply Kd.R_drewN | apply Kd.R_drew)); exact HO_4.out) hb); have n2_ := Aside0.mk (below_step (by repeat (first | (with_reducible first | exact HB.out | apply below_alloc | apply pw_below_drewN | apply below_drew1) | exact HB.out)) hb); clear HO_3; clear HO_4; clear HB; have HO_3 := n0_; have HO_4 := n1_; have HB := n2_; clear n0_ n1_ n2_; (try clear hb); (try clear hb2); (try clear hk); (try clear hi)))
                  go_ret
                  exact ⟨by first | rfl | (simp [errW_none, errW_some] <;> rfl) | (simp [*, errW_none, errW_some] <;> rfl), by repeat (first | (with_reducible first | exact HB.out | apply below_alloc | apply pw_below_drewN | apply below_drew1) | exact HB.out)⟩
                · rw [if_neg c61] at H
                  have c61b0 : (t254 == x6_2) = false := by simpa using c61
                  (try (have c61b1 : decide (t254 = x6_2) = false := by simpa using c61))
                  (try (have c61b2 : (t254 == x6_2) = false := by simpa using c61))
                  (try (have c61b3 : ¬ (t254 = x6_2) := by simpa using c61))
                  clear c61
                  exact absurd (show some false = some true from (by have h_ := H; rw [HT.out] at h_; exact h_)) (by simp)

/-- THE ONE PURE STATEMENT of laws_FnMatchesLet: yours. -/
def laws_FnMatchesLet.Pure : Prop := ∀ (l0 : List Int), l0.length ≤ maxLen → l0.length * 1 ≤ 140737488351232 → (∀ x ∈ l0, (Lit.int .u8 x).wf = true) → ∃ k, laws_FnMatchesLet.f k l0 = some true
theorem laws_FnMatchesLet.walk (P : laws_FnMatchesLet.Pure) (a0 : Option Addr) (len0 cap0 : Nat) (z0 : List Int) (w : World) (w0 : (a0 = none ∧ len0 = 0 ∧ cap0 = 0 ∧ z0 = []) ∨ ∃ x, a0 = some x ∧ len0 ≤ cap0 ∧ cap0 ≤ maxLen ∧ z0.length = cap0 ∧ (∀ i, i < z0.length → w.cell? (x.add i) = some (.int .u8 (z0.getD i 0))) ∧ ∀ n ∈ z0, (Lit.int .u8 n).wf = true) (y0 : len0 * 1 ≤ 140737488351232) :
    Calls Try.prog 7 #[.slice a0 len0 cap0] w fun e w' => e = .returned (.bool true) ∧ Below w.heap.size w w' := by
  obtain ⟨l0, rfl, hr0, hm0, hw0, hc0⟩ := ReadsInt.ofRowC w0
  obtain ⟨k, h⟩ := P l0 hm0 y0 hw0
  refine (laws_FnMatchesLet.calls k _ _ l0 true w (Kd.C_of_reads (d := (0 : Int)) (h1 := fun _ => rfl) hr0) hc0 rfl h).mono ?_
  rintro e w' ⟨rfl, hd⟩
  exact ⟨rfl, hd⟩

end Go.Proofs.Ytipbllegjcedgaa.QFnMatchesLet
