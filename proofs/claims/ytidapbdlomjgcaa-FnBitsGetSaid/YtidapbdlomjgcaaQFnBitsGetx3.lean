-- Written by wip/tools/mk.py (this session's program, which runs the kit's print): functions, and proofs that the machine's calls do what they say.
import Derived.Test.YtidapbdlomjgcaaQFnBitsGetx0
import Derived.Test.YtidapbdlomjgcaaQFnBitsGetx1
import Derived.Test.YtidapbdlomjgcaaQFnBitsGetx2
namespace Go.Proofs.Ytidapbdlomjgcaa.QFnBitsGet
open Go.RowKit Go.Proofs.YtidapbdlomjgcaaW.PrintWords Go.Proofs.YtidapbdlomjgcaaW.PrintLast Go.Proofs.YtidapbdlomjgcaaW.PrintMore
attribute [local go_sem] IntKind.wrap_u8 max2_int min2_int max_two min_two max_three min_three max_four min_four   -- for this text's walks alone
set_option linter.unusedVariables false
set_option linter.unusedSimpArgs false

/-! ### laws_FnBitsGet: function 14 -/
mutual
def laws_FnBitsGet.j0 : Nat → ByteArray → Int → Int → Int → Bool → Int → Bool → Bool → Option (Bool)
  | 0, _, _, _, _, _, _, _, _ => none
  | k + 1, x3, x4, x5, x6, x7, x8, x9, x50 => if x50 = true then (if x6 = x8 then (some (x7 == x9)) else (some false)) else ((impl_BitsGet.f x3 x4 1).bind fun bt151 => (if x5 = 1 then (if bt151.2 = true then (if bt151.1 = x6 then (if x6 = 0 then (some true) else (some (x6 == 1))) else (some false)) else (some false)) else ((impl_BitsGet.f x3 (wrap64 (x4 + 1)) (wrap64 (x5 - 1))).bind fun bt153 => (laws_FnBitsGet.l0 k x5 x6 bt151.1 bt151.2 bt153.1 bt153.2 1 1))))
def laws_FnBitsGet.l0 : Nat → Int → Int → Int → Bool → Int → Bool → Int → Int → Option (Bool)
  | 0, _, _, _, _, _, _, _, _ => none
  | k + 1, x5, x6, x10, x11, x12, x13, x14, x15 => if x15 < x5 then (laws_FnBitsGet.l0 k x5 x6 x10 x11 x12 x13 (wrap64 (2 * x14)) (wrap64 (x15 + 1))) else (if x11 = true then (if x13 = true then (some (x6 == (wrap64 ((wrap64 (x10 * x14)) + x12)))) else (some false)) else (some false))
end
def laws_FnBitsGet.f (k : Nat) (l0 : List Int) : Option (Bool) := if (l0.length : Int) > 1048576 then (some true) else ((spec_DrawBitsGet.f k l0).bind fun bt144 => ((impl_BitsGet.f bt144.1 bt144.2.1 bt144.2.2).bind fun bt147 => ((spec_BitsGet.f k bt144.1 bt144.2.1 bt144.2.2).bind fun bt149 => (if bt147.1 = bt149.1 then (if (bt147.2 != bt149.2) = true then (laws_FnBitsGet.j0 k bt144.1 bt144.2.1 bt144.2.2 bt147.1 bt147.2 bt149.1 bt149.2 true) else (laws_FnBitsGet.j0 k bt144.1 bt144.2.1 bt144.2.2 bt147.1 bt147.2 bt149.1 bt149.2 (!bt147.2))) else (laws_FnBitsGet.j0 k bt144.1 bt144.2.1 bt144.2.2 bt147.1 bt147.2 bt149.1 bt149.2 true)))))
theorem laws_FnBitsGet.mono_l : ∀ k, (∀ y0 y1 y2 y3 y4 y5 y6 y7, LeO (laws_FnBitsGet.j0 k y0 y1 y2 y3 y4 y5 y6 y7) (laws_FnBitsGet.j0 (k + 1) y0 y1 y2 y3 y4 y5 y6 y7)) ∧ (∀ y0 y1 y2 y3 y4 y5 y6 y7, LeO (laws_FnBitsGet.l0 k y0 y1 y2 y3 y4 y5 y6 y7) (laws_FnBitsGet.l0 (k + 1) y0 y1 y2 y3 y4 y5 y6 y7))
  | 0 => ⟨fun _ _ _ _ _ _ _ _ r h => by simp [laws_FnBitsGet.j0] at h, fun _ _ _ _ _ _ _ _ r h => by simp [laws_FnBitsGet.l0] at h⟩
  | k + 1 => by
    obtain ⟨ih0, ih1⟩ := laws_FnBitsGet.mono_l k
    refine ⟨?_, ?_⟩
    · intro y0 y1 y2 y3 y4 y5 y6 y7
      unfold laws_FnBitsGet.j0
      repeat' first
      | (with_reducible exact ih0 _ _ _ _ _ _ _ _)
      | (with_reducible exact ih1 _ _ _ _ _ _ _ _)
      | (with_reducible exact spec_BitsGet.mono _ _ _ _)
      | (with_reducible exact spec_DrawBitsGet.mono _ _)
      | (with_reducible exact LeO.refl _)
      | (with_reducible exact LeO.none _)
      | (with_reducible refine LeO.ite ?_ ?_)
      | (with_reducible refine LeO.bind ?_ (fun _ => ?_))
      | exact ih0 _ _ _ _ _ _ _ _
      | exact ih1 _ _ _ _ _ _ _ _
      | exact spec_BitsGet.mono _ _ _ _
      | exact spec_DrawBitsGet.mono _ _
      | exact LeO.none _
      | refine LeO.ite ?_ ?_
      | refine LeO.bind ?_ (fun _ => ?_)
    · intro y0 y1 y2 y3 y4 y5 y6 y7
      unfold laws_FnBitsGet.l0
      repeat' first
      | (with_reducible exact ih0 _ _ _ _ _ _ _ _)
      | (with_reducible exact ih1 _ _ _ _ _ _ _ _)
      | (with_reducible exact spec_BitsGet.mono _ _ _ _)
      | (with_reducible exact spec_DrawBitsGet.mono _ _)
      | (with_reducible exact LeO.refl _)
      | (with_reducible exact LeO.none _)
      | (with_reducible refine LeO.ite ?_ ?_)
      | (with_reducible refine LeO.bind ?_ (fun _ => ?_))
      | exact ih0 _ _ _ _ _ _ _ _
      | exact ih1 _ _ _ _ _ _ _ _
      | exact spec_BitsGet.mono _ _ _ _
      | exact spec_DrawBitsGet.mono _ _
      | exact LeO.none _
      | refine LeO.ite ?_ ?_
      | refine LeO.bind ?_ (fun _ => ?_)
theorem laws_FnBitsGet.mono : ∀ a0 k, LeO (laws_FnBitsGet.f k a0) (laws_FnBitsGet.f (k + 1) a0) := by
  intro a0 k
  obtain ⟨ih0, ih1⟩ := laws_FnBitsGet.mono_l k
  unfold laws_FnBitsGet.f
  repeat' first
      | (with_reducible exact ih0 _ _ _ _ _ _ _ _)
      | (with_reducible exact ih1 _ _ _ _ _ _ _ _)
      | (with_reducible exact spec_BitsGet.mono _ _ _ _)
      | (with_reducible exact spec_DrawBitsGet.mono _ _)
      | (with_reducible exact LeO.refl _)
      | (with_reducible exact LeO.none _)
      | (with_reducible refine LeO.ite ?_ ?_)
      | (with_reducible refine LeO.bind ?_ (fun _ => ?_))
      | exact ih0 _ _ _ _ _ _ _ _
      | exact ih1 _ _ _ _ _ _ _ _
      | exact spec_BitsGet.mono _ _ _ _
      | exact spec_DrawBitsGet.mono _ _
      | exact LeO.none _
      | refine LeO.ite ?_ ?_
      | refine LeO.bind ?_ (fun _ => ?_)
set_option maxHeartbeats 8000000 in
set_option maxRecDepth 100000 in
theorem laws_FnBitsGet.calls (k : Nat) (A0 : Option Addr) (c0 : Nat) (l0 : List Int) (r : Bool) (w : World) (hr0 : Kd.C (Kd.int .u8) w A0 l0.length l0) (hc0 : l0.length ≤ c0) (hrt : r = true) (h : laws_FnBitsGet.f k l0 = some r) :
    Calls Try.prog 14 #[.slice A0 l0.length c0] w fun e w' => e = .returned (.bool r) ∧ Below w.heap.size w w' := by
  have HT := Aside0.mk hrt
  clear hrt
  have HR0 := Aside0.mk hr0
  have HC0 := Aside0.mk hc0
  clear hr0 hc0
  have HB := Aside0.mk (Below.refl w.heap.size w)
  have H : (if (l0.length : Int) > 1048576 then (some true) else ((spec_DrawBitsGet.f k l0).bind fun bt144 => ((impl_BitsGet.f bt144.1 bt144.2.1 bt144.2.2).bind fun bt147 => ((spec_BitsGet.f k bt144.1 bt144.2.1 bt144.2.2).bind fun bt149 => (if bt147.1 = bt149.1 then (if (bt147.2 != bt149.2) = true then (laws_FnBitsGet.j0 k bt144.1 bt144.2.1 bt144.2.2 bt147.1 bt147.2 bt149.1 bt149.2 true) else (laws_FnBitsGet.j0 k bt144.1 bt144.2.1 bt144.2.2 bt147.1 bt147.2 bt149.1 bt149.2 (!bt147.2))) else (laws_FnBitsGet.j0 k bt144.1 bt144.2.1 bt144.2.2 bt147.1 bt147.2 bt149.1 bt149.2 true)))))) = some r := h
  clear h
  by_cases c2 : (l0.length : Int) > 1048576
  · rw [if_pos c2] at H
    have c2b0 : decide (1048576 < (l0.length : Int)) = true := decide_eq_true c2
    have c2b1 : decide (1048576 < l0.length) = true := decide_eq_true (by omega)
    clear c2
    obtain rfl := Option.some.inj H
    go_enter Try.func14, Try.ntmps14
    go_wp2
    go_ret
    exact ⟨by first | rfl | (simp [errW_none, errW_some] <;> rfl) | (simp [*, errW_none, errW_some] <;> rfl), by repeat (first | (with_reducible first | exact HB.out | apply below_alloc | apply pw_below_drewN | apply below_drew1) | exact HB.out)⟩
  · rw [if_neg c2] at H
    have c2b0 : decide (1048576 < (l0.length : Int)) = false := decide_eq_false c2
    have c2b1 : decide (1048576 < l0.length) = false := decide_eq_false (by omega)
    clear c2
    replace H := Option.bind_eq_some_iff.mp H
    obtain ⟨⟨t144, t145, t146⟩, A30, H⟩ := H
    replace H : ((impl_BitsGet.f t144 t145 t146).bind fun bt147 => ((spec_BitsGet.f k t144 t145 t146).bind fun bt149 => (if bt147.1 = bt149.1 then (if (bt147.2 != bt149.2) = true then (laws_FnBitsGet.j0 k t144 t145 t146 bt147.1 bt147.2 bt149.1 bt149.2 true) else (laws_FnBitsGet.j0 k t144 t145 t146 bt147.1 bt147.2 bt149.1 bt149.2 (!bt147.2))) else (laws_FnBitsGet.j0 k t144 t145 t146 bt147.1 bt147.2 bt149.1 bt149.2 true)))) = some r := H
    have A3 := Aside0.mk A30
    clear A30
    replace H := Option.bind_eq_some_iff.mp H
    obtain ⟨⟨t147, t148⟩, A40, H⟩ := H
    replace H : ((spec_BitsGet.f k t144 t145 t146).bind fun bt149 => (if t147 = bt149.1 then (if (t148 != bt149.2) = true then (laws_FnBitsGet.j0 k t144 t145 t146 t147 t148 bt149.1 bt149.2 true) else (laws_FnBitsGet.j0 k t144 t145 t146 t147 t148 bt149.1 bt149.2 (!t148))) else (laws_FnBitsGet.j0 k t144 t145 t146 t147 t148 bt149.1 bt149.2 true))) = some r := H
    have A4 := Aside0.mk A40
    clear A40
    replace H := Option.bind_eq_some_iff.mp H
    obtain ⟨⟨t149, t150⟩, A50, H⟩ := H
    replace H : (if t147 = t149 then (if (t148 != t150) = true then (laws_FnBitsGet.j0 k t144 t145 t146 t147 t148 t149 t150 true) else (laws_FnBitsGet.j0 k t144 t145 t146 t147 t148 t149 t150 (!t148))) else (laws_FnBitsGet.j0 k t144 t145 t146 t147 t148 t149 t150 true)) = some r := H
    have A5 := Aside0.mk A50
    clear A50
    have HC6 := Aside0.mk H
    clear H
    go_enter Try.func14, Try.ntmps14
    go_upto_region 6 with (first | ((with_reducible refine gate_callee (f := 39) rfl ?_); refine goesL_ (some 21) rfl rfl Try.func39 (by kernel_rfl) rfl #[.slice A0 l0.length c0] rfl (by (try simp only [List.map_toArray, List.map_cons, List.map_nil]); first | done | rfl | (simp only [List.length_drop, List.length_take]; rfl)) ?_; (with_reducible refine (spec_DrawBitsGet.calls k _ _ l0 t144 t145 t146 _ ?side1 ?side2 A3.out).mono ?_); (case side1 => repeat (first | exact HR0.out | (with_reducible refine Kd.C_alloc ?_ _) | (with_reducible refine Kd.C_drewN ?_ _) | (with_reducible refine Kd.C_drew ?_))); (case side2 => exact HC0.out); rintro e w7 ⟨rfl, hb⟩; refine ⟨_, rfl, ?_⟩; have n0_ := Aside0.mk (below_step (by repeat (first | (with_reducible first | exact HB.out | apply below_alloc | apply pw_below_drewN | apply below_drew1) | exact HB.out)) hb); clear HB; have HB := n0_; clear n0_; (try clear hb); (try clear hb2); (try clear hk); (try clear hi)) | ((with_reducible refine gate_callee (f := 28) rfl ?_); refine goesL_ (some 29) rfl rfl Try.func28 (by kernel_rfl) rfl #[.string t144, .int .i64 t145, .int .i64 t146] rfl (by (try simp only [List.map_toArray, List.map_cons, List.map_nil]); first | done | rfl | (simp only [List.length_drop, List.length_take]; rfl)) ?_; (with_reducible refine (impl_BitsGet.calls t144 t145 t146 t147 t148 _ A4.out).mono ?_); rintro e w8 ⟨rfl, hb⟩; refine ⟨_, rfl, ?_⟩; have n0_ := Aside0.mk (below_step (by repeat (first | (with_reducible first | exact HB.out | apply below_alloc | apply pw_below_drewN | apply below_drew1) | exact HB.out)) hb); clear HB; have HB := n0_; clear n0_; (try clear hb); (try clear hb2); (try clear hk); (try clear hi)) | ((with_reducible refine gate_callee (f := 27) rfl ?_); refine goesL_ (some 36) rfl rfl Try.func27 (by kernel_rfl) rfl #[.string t144, .int .i64 t145, .int .i64 t146] rfl (by (try simp only [List.map_toArray, List.map_cons, List.map_nil]); first | done | rfl | (simp only [List.length_drop, List.length_take]; rfl)) ?_; (with_reducible refine (spec_BitsGet.calls k t144 t145 t146 t149 t150 _ A5.out).mono ?_); rintro e w' ⟨rfl, ⟨nd, rfl⟩⟩; refine ⟨_, rfl, ?_⟩))
    (try simp only [Act.put, List.setIfInBounds_toArray, List.set_cons_zero, List.set_cons_succ])
    go_cut [50] (fun v50 wc => ∃ (kq : Nat) (x50_5 : Bool), v50 = .bool x50_5 ∧ Aside0 (laws_FnBitsGet.j0 kq t144 t145 t146 t147 t148 t149 t150 x50_5 = some r) ∧ Aside0 (kq ≤ k) ∧ Aside0 (Below w.heap.size w wc))
    case first =>
      have H := HC6.out
      clear HC6
      by_cases c9 : t147 = t149
      · rw [if_pos c9] at H
        have c9b0 : (t147 == t149) = true := beq_iff_eq.mpr c9
        have c9b1 : (t147 != t149) = false := bne_eq_false_iff_eq.mpr c9
        clear c9
        (first | rw [c9b0] | (simp only [i64_w, i32_w]; rw [c9b0]) | skip)
        by_cases c10 : (t148 != t150) = true
        · rw [if_pos c10] at H
          have c10b0 : (t148 != t150) = true := c10
          (try (have c10b1 : decide (t148 = t150) = false := by simpa using c10))
          (try (have c10b2 : (t148 == t150) = false := by simpa using c10))
          (try (have c10b3 : ¬ (t148 = t150) := by simpa using c10))
          clear c10
          have H' := Aside0.mk H
          clear H
          go_wp2
          go_meet
          case rel => exact ⟨_, (true), (by first | rfl | (simp; done) | (simp [*]; done) | (simp only [my_ne_nil]; rfl)), H', ⟨by first | omega | exact Nat.le_refl _⟩, ⟨by repeat (first | (with_reducible first | exact HB.out | apply below_alloc | apply pw_below_drewN | apply below_drew1) | exact HB.out)⟩⟩
        · rw [if_neg c10] at H
          have c10b0 : (t148 != t150) = false := by simpa using c10
          (try (have c10b1 : decide (t148 = t150) = true := by simpa using c10))
          (try (have c10b2 : (t148 == t150) = true := by simpa using c10))
          clear c10
          have H' := Aside0.mk H
          clear H
          go_wp2
          go_meet
          case rel => exact ⟨_, (!t148), (by first | rfl | (simp; done) | (simp [*]; done) | (simp only [my_ne_nil]; rfl)), H', ⟨by first | omega | exact Nat.le_refl _⟩, ⟨by repeat (first | (with_reducible first | exact HB.out | apply below_alloc | apply pw_below_drewN | apply below_drew1) | exact HB.out)⟩⟩
      · rw [if_neg c9] at H
        have c9b0 : (t147 == t149) = false := beq_eq_false_iff_ne.mpr c9
        have c9b1 : (t147 != t149) = true := bne_iff_ne.mpr c9
        (first | rw [c9b0] | (simp only [i64_w, i32_w]; rw [c9b0]) | skip)
        have H' := Aside0.mk H
        clear H
        go_wp2
        go_meet
        case rel => exact ⟨_, (true), (by first | rfl | (simp; done) | (simp [*]; done) | (simp only [my_ne_nil]; rfl)), H', ⟨by first | omega | exact Nat.le_refl _⟩, ⟨by repeat (first | (with_reducible first | exact HB.out | apply below_alloc | apply pw_below_drewN | apply below_drew1) | exact HB.out)⟩⟩
    case rest =>
      clear HC6
      try clear c1
      try clear c2
      try clear c2b0
      try clear c2b1
      try clear p2
      try clear c3
      try clear c9
      try clear c9b0
      try clear c9b1
      try clear c10
      try clear c10b0
      try clear c10b1
      try clear c10b2
      obtain ⟨kq, x50_5, rfl, HA, HJ5, HB⟩ := hcut
      cases kq with
      | zero => exact absurd HA.out (by simp [laws_FnBitsGet.j0])
      | succ kj5 =>
        have H := HA.out
        clear HA
        simp only [laws_FnBitsGet.j0] at H
        by_cases c11 : x50_5 = true
        · subst c11
          have H1 : (if t147 = t149 then (some (t148 == t150)) else (some false)) = some r := by rw [if_pos rfl] at H; exact H
          clear H
          have H := H1
          clear H1
          by_cases c12 : t147 = t149
          · rw [if_pos c12] at H
            have c12b0 : (t147 == t149) = true := beq_iff_eq.mpr c12
            have c12b1 : (t147 != t149) = false := bne_eq_false_iff_eq.mpr c12
            clear c12
            obtain rfl := Option.some.inj H
            go_wp2
            go_ret
            exact ⟨by first | rfl | (simp [errW_none, errW_some] <;> rfl) | (simp [*, errW_none, errW_some] <;> rfl), by repeat (first | (with_reducible first | exact HB.out | apply below_alloc | apply pw_below_drewN | apply below_drew1) | exact HB.out)⟩
          · rw [if_neg c12] at H
            have c12b0 : (t147 == t149) = false := beq_eq_false_iff_ne.mpr c12
            have c12b1 : (t147 != t149) = true := bne_iff_ne.mpr c12
            exact absurd (show some false = some true from (by have h_ := H; rw [HT.out] at h_; exact h_)) (by simp)
        · replace c11 := Bool.eq_false_iff.mpr c11
          subst c11
          have H1 : ((impl_BitsGet.f t144 t145 1).bind fun bt151 => (if t146 = 1 then (if bt151.2 = true then (if bt151.1 = t147 then (if t147 = 0 then (some true) else (some (t147 == 1))) else (some false)) else (some false)) else ((impl_BitsGet.f t144 (wrap64 (t145 + 1)) (wrap64 (t146 - 1))).bind fun bt153 => (laws_FnBitsGet.l0 kj5 t146 t147 bt151.1 bt151.2 bt153.1 bt153.2 1 1)))) = some r := by rw [if_neg (show ¬ (false = true) by decide)] at H; exact H
          clear H
          have H := H1
          clear H1
          replace H := Option.bind_eq_some_iff.mp H
          obtain ⟨⟨t151, t152⟩, A130, H⟩ := H
          replace H : (if t146 = 1 then (if t152 = true then (if t151 = t147 then (if t147 = 0 then (some true) else (some (t147 == 1))) else (some false)) else (some false)) else ((impl_BitsGet.f t144 (wrap64 (t145 + 1)) (wrap64 (t146 - 1))).bind fun bt153 => (laws_FnBitsGet.l0 kj5 t146 t147 t151 t152 bt153.1 bt153.2 1 1))) = some r := H
          have A13 := Aside0.mk A130
          clear A130
          by_cases c14 : t146 = 1
          · rw [if_pos c14] at H
            have c14b0 : (t146 == 1) = true := beq_iff_eq.mpr c14
            have c14b1 : (t146 != 1) = false := bne_eq_false_iff_eq.mpr c14
            clear c14
            by_cases c15 : t152 = true
            · subst c15
              have H1 : (if t151 = t147 then (if t147 = 0 then (some true) else (some (t147 == 1))) else (some false)) = some r := by rw [if_pos rfl] at H; exact H
              clear H
              have H := H1
              clear H1
              by_cases c16 : t151 = t147
              · rw [if_pos c16] at H
                have c16b0 : (t151 == t147) = true := beq_iff_eq.mpr c16
                have c16b1 : (t151 != t147) = false := bne_eq_false_iff_eq.mpr c16
                clear c16
                by_cases c17 : t147 = 0
                · rw [if_pos c17] at H
                  have c17b0 : (t147 == 0) = true := beq_iff_eq.mpr c17
                  have c17b1 : (t147 != 0) = false := bne_eq_false_iff_eq.mpr c17
                  clear c17
                  obtain rfl := Option.some.inj H
                  go_wp2_with (first | ((with_reducible refine gate_callee (f := 28) rfl ?_); refine goesL_ (some 62) rfl rfl Try.func28 (by kernel_rfl) rfl #[.string t144, .int .i64 t145, .int .i64 1] rfl (by (try simp only [List.map_toArray, List.map_cons, List.map_nil]); first | done | rfl | (simp only [List.length_drop, List.length_take]; rfl)) ?_; (with_reducible refine (impl_BitsGet.calls t144 t145 1 t151 true _ A13.out).mono ?_); rintro e w18 ⟨rfl, hb⟩; refine ⟨_, rfl, ?_⟩; have n0_ := Aside0.mk (below_step (by repeat (first | (with_reducible first | exact HB.out | apply below_alloc | apply pw_below_drewN | apply below_drew1) | exact HB.out)) hb); clear HB; have HB := n0_; clear n0_; (try clear hb); (try clear hb2); (try clear hk); (try clear hi)))
                  go_ret
                  exact ⟨by first | rfl | (simp [errW_none, errW_some] <;> rfl) | (simp [*, errW_none, errW_some] <;> rfl), by repeat (first | (with_reducible first | exact HB.out | apply below_alloc | apply pw_below_drewN | apply below_drew1) | exact HB.out)⟩
                · rw [if_neg c17] at H
                  have c17b0 : (t147 == 0) = false := beq_eq_false_iff_ne.mpr c17
                  have c17b1 : (t147 != 0) = true := bne_iff_ne.mpr c17
                  obtain rfl := Option.some.inj H
                  go_wp2_with (first | ((with_reducible refine gate_callee (f := 28) rfl ?_); refine goesL_ (some 62) rfl rfl Try.func28 (by kernel_rfl) rfl #[.string t144, .int .i64 t145, .int .i64 1] rfl (by (try simp only [List.map_toArray, List.map_cons, List.map_nil]); first | done | rfl | (simp only [List.length_drop, List.length_take]; rfl)) ?_; (with_reducible refine (impl_BitsGet.calls t144 t145 1 t151 true _ A13.out).mono ?_); rintro e w19 ⟨rfl, hb⟩; refine ⟨_, rfl, ?_⟩; have n0_ := Aside0.mk (below_step (by repeat (first | (with_reducible first | exact HB.out | apply below_alloc | apply pw_below_drewN | apply below_drew1) | exact HB.out)) hb); clear HB; have HB := n0_; clear n0_; (try clear hb); (try clear hb2); (try clear hk); (try clear hi)))
                  go_ret
                  exact ⟨by first | rfl | (simp [errW_none, errW_some] <;> rfl) | (simp [*, errW_none, errW_some] <;> rfl), by repeat (first | (with_reducible first | exact HB.out | apply below_alloc | apply pw_below_drewN | apply below_drew1) | exact HB.out)⟩
              · rw [if_neg c16] at H
                have c16b0 : (t151 == t147) = false := beq_eq_false_iff_ne.mpr c16
                have c16b1 : (t151 != t147) = true := bne_iff_ne.mpr c16
                exact absurd (show some false = some true from (by have h_ := H; rw [HT.out] at h_; exact h_)) (by simp)
            · replace c15 := Bool.eq_false_iff.mpr c15
              subst c15
              have H1 : (some false) = some r := by rw [if_neg (show ¬ (false = true) by decide)] at H; exact H
              clear H
              have H := H1
              clear H1
              exact absurd (show some false = some true from (by have h_ := H; rw [HT.out] at h_; exact h_)) (by simp)
          · rw [if_neg c14] at H
            have c14b0 : (t146 == 1) = false := beq_eq_false_iff_ne.mpr c14
            have c14b1 : (t146 != 1) = true := bne_iff_ne.mpr c14
            replace H := Option.bind_eq_some_iff.mp H
            obtain ⟨⟨t153, t154⟩, A200, H⟩ := H
            replace H : (laws_FnBitsGet.l0 kj5 t146 t147 t151 t152 t153 t154 1 1) = some r := H
            have A20 := Aside0.mk A200
            clear A200
            have H' := Aside0.mk H
            clear H
            go_wp2_with (first | ((with_reducible refine gate_callee (f := 28) rfl ?_); refine goesL_ (some 62) rfl rfl Try.func28 (by kernel_rfl) rfl #[.string t144, .int .i64 t145, .int .i64 1] rfl (by (try simp only [List.map_toArray, List.map_cons, List.map_nil]); first | done | rfl | (simp only [List.length_drop, List.length_take]; rfl)) ?_; (with_reducible refine (impl_BitsGet.calls t144 t145 1 t151 t152 _ A13.out).mono ?_); rintro e w21 ⟨rfl, hb⟩; refine ⟨_, rfl, ?_⟩; have n0_ := Aside0.mk (below_step (by repeat (first | (with_reducible first | exact HB.out | apply below_alloc | apply pw_below_drewN | apply below_drew1) | exact HB.out)) hb); clear HB; have HB := n0_; clear n0_; (try clear hb); (try clear hb2); (try clear hk); (try clear hi)) | ((with_reducible refine gate_callee (f := 28) rfl ?_); refine goesL_ (some 87) rfl rfl Try.func28 (by kernel_rfl) rfl #[.string t144, .int .i64 (wrap64 (t145 + 1)), .int .i64 (wrap64 (t146 - 1))] rfl (by (try simp only [List.map_toArray, List.map_cons, List.map_nil]); first | done | rfl | (simp only [List.length_drop, List.length_take]; rfl)) ?_; (with_reducible refine (impl_BitsGet.calls t144 (wrap64 (t145 + 1)) (wrap64 (t146 - 1)) t153 t154 _ A20.out).mono ?_); rintro e w22 ⟨rfl, hb⟩; refine ⟨_, rfl, ?_⟩; have n0_ := Aside0.mk (below_step (by repeat (first | (with_reducible first | exact HB.out | apply below_alloc | apply pw_below_drewN | apply below_drew1) | exact HB.out)) hb); clear HB; have HB := n0_; clear n0_; (try clear hb); (try clear hb2); (try clear hk); (try clear hi)))
            go_loopg [14, 15] kj5 (fun kq v14 v15 w' => ∃ (x14_2 : Int) (x15_2 : Int), v14 = .int .i64 x14_2 ∧ v15 = .int .i64 x15_2 ∧ Aside0 (laws_FnBitsGet.l0 kq t146 t147 t151 t152 t153 t154 x14_2 x15_2 = some r) ∧ Aside0 (kq ≤ kj5) ∧ Aside0 (Below w.heap.size w w'))
            case atStart => exact ⟨(1), (1), (by first | rfl | (simp; done) | (simp [*]; done) | (simp only [my_ne_nil]; rfl)), (by first | rfl | (simp; done) | (simp [*]; done) | (simp only [my_ne_nil]; rfl)), H', ⟨Nat.le_refl _⟩, ⟨by repeat (first | (with_reducible first | exact HB.out | apply below_alloc | apply pw_below_drewN | apply below_drew1) | exact HB.out)⟩⟩
            case round =>
              clear H'
              try clear c1
              try clear c2
              try clear c2b0
              try clear c2b1
              try clear p2
              try clear c3
              try clear p6
              try clear c9
              try clear c9b0
              try clear c9b1
              try clear c10
              try clear c10b0
              try clear c10b1
              try clear c10b2
              try clear c11
              try clear c12
              try clear c12b0
              try clear c12b1
              try clear c14
              try clear c14b0
              try clear c14b1
              try clear c15
              try clear c16
              try clear c16b0
              try clear c16b1
              try clear c17
              try clear c17b0
              try clear c17b1
              try clear p2
              obtain ⟨x14_2, x15_2, rfl, rfl, HA, HK2, HB⟩ := hrel
              cases gk with
              | zero => exact absurd HA.out (by simp [laws_FnBitsGet.l0])
              | succ k2 =>
                have H := HA.out
                clear HA
                simp only [laws_FnBitsGet.l0] at H
                by_cases c23 : x15_2 < t146
                · rw [if_pos c23] at H
                  have c23b0 : decide (x15_2 < t146) = true := decide_eq_true c23
                  clear c23
                  have H' := Aside0.mk H
                  clear H
                  go_wp2
                  go_roundg k2
                  case measure => have := HJ5.out; have := HK2.out; omega
                  case rel => exact ⟨(wrap64 (2 * x14_2)), (wrap64 (x15_2 + 1)), (by first | rfl | (simp; done) | (simp [*]; done) | (simp only [my_ne_nil]; rfl)), (by first | rfl | (simp; done) | (simp [*]; done) | (simp only [my_ne_nil]; rfl)), H', ⟨by have := HJ5.out; have := HK2.out; omega⟩, ⟨by repeat (first | (with_reducible first | exact HB.out | apply below_alloc | apply pw_below_drewN | apply below_drew1) | exact HB.out)⟩⟩
                · rw [if_neg c23] at H
                  have c23b0 : decide (x15_2 < t146) = false := decide_eq_false c23
                  clear c23
                  by_cases c24 : t152 = true
                  · subst c24
                    have H1 : (if t154 = true then (some (t147 == (wrap64 ((wrap64 (t151 * x14_2)) + t153)))) else (some false)) = some r := by rw [if_pos rfl] at H; exact H
                    clear H
                    have H := H1
                    clear H1
                    by_cases c25 : t154 = true
                    · subst c25
                      have H1 : (some (t147 == (wrap64 ((wrap64 (t151 * x14_2)) + t153)))) = some r := by rw [if_pos rfl] at H; exact H
                      clear H
                      have H := H1
                      clear H1
                      obtain rfl := Option.some.inj H
                      go_wp2
                      go_ret
                      exact ⟨by first | rfl | (simp [errW_none, errW_some] <;> rfl) | (simp [*, errW_none, errW_some] <;> rfl), by repeat (first | (with_reducible first | exact HB.out | apply below_alloc | apply pw_below_drewN | apply below_drew1) | exact HB.out)⟩
                    · replace c25 := Bool.eq_false_iff.mpr c25
                      subst c25
                      have H1 : (some false) = some r := by rw [if_neg (show ¬ (false = true) by decide)] at H; exact H
                      clear H
                      have H := H1
                      clear H1
                      exact absurd (show some false = some true from (by have h_ := H; rw [HT.out] at h_; exact h_)) (by simp)
                  · replace c24 := Bool.eq_false_iff.mpr c24
                    subst c24
                    have H1 : (some false) = some r := by rw [if_neg (show ¬ (false = true) by decide)] at H; exact H
                    clear H
                    have H := H1
                    clear H1
                    exact absurd (show some false = some true from (by have h_ := H; rw [HT.out] at h_; exact h_)) (by simp)

/-- THE ONE PURE STATEMENT of laws_FnBitsGet: yours. -/
def laws_FnBitsGet.Pure : Prop := ∀ (l0 : List Int), l0.length ≤ maxLen → l0.length * 1 ≤ 140737488351232 → (∀ x ∈ l0, (Lit.int .u8 x).wf = true) → ∃ k, laws_FnBitsGet.f k l0 = some true
theorem laws_FnBitsGet.walk (P : laws_FnBitsGet.Pure) (a0 : Option Addr) (len0 cap0 : Nat) (z0 : List Int) (w : World) (w0 : (a0 = none ∧ len0 = 0 ∧ cap0 = 0 ∧ z0 = []) ∨ ∃ x, a0 = some x ∧ len0 ≤ cap0 ∧ cap0 ≤ maxLen ∧ z0.length = cap0 ∧ (∀ i, i < z0.length → w.cell? (x.add i) = some (.int .u8 (z0.getD i 0))) ∧ ∀ n ∈ z0, (Lit.int .u8 n).wf = true) (y0 : len0 * 1 ≤ 140737488351232) :
    Calls Try.prog 14 #[.slice a0 len0 cap0] w fun e w' => e = .returned (.bool true) ∧ Below w.heap.size w w' := by
  obtain ⟨l0, rfl, hr0, hm0, hw0, hc0⟩ := ReadsInt.ofRowC w0
  obtain ⟨k, h⟩ := P l0 hm0 y0 hw0
  refine (laws_FnBitsGet.calls k _ _ l0 true w (Kd.C_of_reads (d := (0 : Int)) (h1 := fun _ => rfl) hr0) hc0 rfl h).mono ?_
  rintro e w' ⟨rfl, hd⟩
  exact ⟨rfl, hd⟩

end Go.Proofs.Ytidapbdlomjgcaa.QFnBitsGet
