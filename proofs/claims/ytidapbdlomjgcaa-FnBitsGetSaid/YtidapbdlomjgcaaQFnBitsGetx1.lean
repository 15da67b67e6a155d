-- Written by wip/tools/mk.py (this session's program, which runs the kit's print): functions, and proofs that the machine's calls do what they say.
import Derived.Test.YtidapbdlomjgcaaQFnBitsGetx0
namespace Go.Proofs.Ytidapbdlomjgcaa.QFnBitsGet
open Go.RowKit Go.Proofs.YtidapbdlomjgcaaW.PrintWords Go.Proofs.YtidapbdlomjgcaaW.PrintLast Go.Proofs.YtidapbdlomjgcaaW.PrintMore
attribute [local go_sem] IntKind.wrap_u8 max2_int min2_int max_two min_two max_three min_three max_four min_four   -- for this text's walks alone
set_option linter.unusedVariables false
set_option linter.unusedSimpArgs false

/-! ### spec_l1In: function 40 -/
def spec_l1In.f (a0 : Int) (a1 : Int) (a2 : Int) : Option (Bool) := if a0 ≥ a1 then (some (decide (a0 ≤ a2))) else (some false)
set_option maxHeartbeats 8000000 in
set_option maxRecDepth 100000 in
theorem spec_l1In.calls (a0 : Int) (a1 : Int) (a2 : Int) (r : Bool) (w : World) (h : spec_l1In.f a0 a1 a2 = some r) :
    Calls Try.prog 40 #[.int .i64 a0, .int .i64 a1, .int .i64 a2] w fun e w' => e = .returned (.bool r) ∧ Drawn0 w w' := by
  have H : (if a0 ≥ a1 then (some (decide (a0 ≤ a2))) else (some false)) = some r := h
  clear h
  by_cases c4 : a0 ≥ a1
  · rw [if_pos c4] at H
    have c4b0 : decide (a1 ≤ a0) = true := decide_eq_true c4
    clear c4
    obtain rfl := Option.some.inj H
    go_enter Try.func40, Try.ntmps40
    go_wp2
    go_ret
    exact ⟨by first | rfl | (simp; done) | (simp [*]; done) | (simp only [my_ne_nil]; rfl), by repeat (first | exact Drawn0.refl _ | apply Drawn0.step)⟩
  · rw [if_neg c4] at H
    have c4b0 : decide (a1 ≤ a0) = false := decide_eq_false c4
    clear c4
    obtain rfl := Option.some.inj H
    go_enter Try.func40, Try.ntmps40
    go_wp2
    go_ret
    exact ⟨by first | rfl | (simp; done) | (simp [*]; done) | (simp only [my_ne_nil]; rfl), by repeat (first | exact Drawn0.refl _ | apply Drawn0.step)⟩

/-! ### spec_l1Get: function 42 -/
def spec_l1Get.l0 : Nat → ByteArray → Int → Int → Int → Int → Option (Int)
  | 0, _, _, _, _, _ => none
  | k + 1, x0, x1, x2, x7, x8 => if x8 < x2 then (if 0 ≤ (wrap64 (Int.tdiv (wrap64 (x1 + x8)) 8)) then (if (wrap64 (Int.tdiv (wrap64 (x1 + x8)) 8)) < (x0.size : Int) then (if 0 ≤ (wrap64 (7 - (Int.tmod (wrap64 (x1 + x8)) 8))) then (spec_l1Get.l0 k x0 x1 x2 (wrap64 ((wrap64 (x7 * 2)) + (Go.bits .and .i64 (shr .i64 (wrap64 (bt x0 (wrap64 (Int.tdiv (wrap64 (x1 + x8)) 8)))) (wrap64 (7 - (Int.tmod (wrap64 (x1 + x8)) 8)))) 1))) (wrap64 (x8 + 1))) else (none)) else (none)) else (none)) else (some x7)
def spec_l1Get.f (k : Nat) (a0 : ByteArray) (a1 : Int) (a2 : Int) : Option (Int) := spec_l1Get.l0 k a0 a1 a2 0 0
theorem spec_l1Get.mono_l : ∀ k, (∀ y0 y1 y2 y3 y4, LeO (spec_l1Get.l0 k y0 y1 y2 y3 y4) (spec_l1Get.l0 (k + 1) y0 y1 y2 y3 y4))
  | 0 => fun _ _ _ _ _ r h => by simp [spec_l1Get.l0] at h
  | k + 1 => by
    have ih0 := spec_l1Get.mono_l k
    · intro y0 y1 y2 y3 y4
      unfold spec_l1Get.l0
      repeat' first
      | (with_reducible exact ih0 _ _ _ _ _)
      | (with_reducible exact LeO.refl _)
      | (with_reducible exact LeO.none _)
      | (with_reducible refine LeO.ite ?_ ?_)
      | (with_reducible refine LeO.bind ?_ (fun _ => ?_))
      | exact ih0 _ _ _ _ _
      | exact LeO.none _
      | refine LeO.ite ?_ ?_
      | refine LeO.bind ?_ (fun _ => ?_)
theorem spec_l1Get.mono : ∀ a0 a1 a2 k, LeO (spec_l1Get.f k a0 a1 a2) (spec_l1Get.f (k + 1) a0 a1 a2) := by
  intro a0 a1 a2 k
  have ih0 := spec_l1Get.mono_l k
  unfold spec_l1Get.f
  repeat' first
      | (with_reducible exact ih0 _ _ _ _ _)
      | (with_reducible exact LeO.refl _)
      | (with_reducible exact LeO.none _)
      | (with_reducible refine LeO.ite ?_ ?_)
      | (with_reducible refine LeO.bind ?_ (fun _ => ?_))
      | exact ih0 _ _ _ _ _
      | exact LeO.none _
      | refine LeO.ite ?_ ?_
      | refine LeO.bind ?_ (fun _ => ?_)
set_option maxHeartbeats 8000000 in
set_option maxRecDepth 100000 in
theorem spec_l1Get.calls (k : Nat) (a0 : ByteArray) (a1 : Int) (a2 : Int) (r : Int) (w : World) (h : spec_l1Get.f k a0 a1 a2 = some r) :
    Calls Try.prog 42 #[.string a0, .int .i64 a1, .int .i64 a2] w fun e w' => e = .returned (.int .i64 r) ∧ Drawn0 w w' := by
  have H : (spec_l1Get.l0 k a0 a1 a2 0 0) = some r := h
  clear h
  have H' := Aside0.mk H
  clear H
  go_enter Try.func42, Try.ntmps42
  go_wp2
  go_loopg [7, 8] k (fun kq v7 v8 w' => ∃ (x7_1 : Int) (x8_1 : Int), v7 = .int .i64 x7_1 ∧ v8 = .int .i64 x8_1 ∧ Aside0 (spec_l1Get.l0 kq a0 a1 a2 x7_1 x8_1 = some r) ∧ Aside0 (kq ≤ k) ∧ Drawn0 w w')
  case atStart => exact ⟨(0), (0), (by first | rfl | (simp; done) | (simp [*]; done) | (simp only [my_ne_nil]; rfl)), (by first | rfl | (simp; done) | (simp [*]; done) | (simp only [my_ne_nil]; rfl)), H', ⟨Nat.le_refl _⟩, by repeat (first | exact Drawn0.refl _ | apply Drawn0.step)⟩
  case round =>
    clear H'
    try clear p2
    obtain ⟨x7_1, x8_1, rfl, rfl, HA, HK1, ⟨m1, rfl⟩⟩ := hrel
    cases gk with
    | zero => exact absurd HA.out (by simp [spec_l1Get.l0])
    | succ k1 =>
      have H := HA.out
      clear HA
      simp only [spec_l1Get.l0] at H
      by_cases c4 : x8_1 < a2
      · rw [if_pos c4] at H
        have c4b0 : decide (x8_1 < a2) = true := decide_eq_true c4
        clear c4
        obtain ⟨ji5, hji5⟩ : ∃ j_ : Int, (wrap64 (Int.tdiv (wrap64 (a1 + x8_1)) 8)) = j_ := ⟨_, rfl⟩
        replace H : (if 0 ≤ (ji5) then (if (ji5) < (a0.size : Int) then (if 0 ≤ (wrap64 (7 - (Int.tmod (wrap64 (a1 + x8_1)) 8))) then (spec_l1Get.l0 k1 a0 a1 a2 (wrap64 ((wrap64 (x7_1 * 2)) + (Go.bits .and .i64 (shr .i64 (wrap64 (bt a0 (ji5))) (wrap64 (7 - (Int.tmod (wrap64 (a1 + x8_1)) 8)))) 1))) (wrap64 (x8_1 + 1))) else (none)) else (none)) else (none)) = some r := by first | (rw [hji5] at H; exact H) | (simp only [hji5] at H ⊢; exact H)
        have hji5w : (IntKind.i64.wrap (Int.tdiv (wrap64 (a1 + x8_1)) 8)) = ji5 := (i64_w _).trans hji5
        by_cases c6 : 0 ≤ (ji5)
        · rw [if_pos c6] at H
          have c6b0 : decide (0 ≤ (ji5)) = true := decide_eq_true c6
          clear c6
          by_cases c7 : (ji5) < (a0.size : Int)
          · rw [if_pos c7] at H
            have c7b0 : decide ((ji5) < (a0.size : Int)) = true := decide_eq_true c7
            clear c7
            obtain ⟨ji9, hji9⟩ : ∃ j_ : Int, (wrap64 (7 - (Int.tmod (wrap64 (a1 + x8_1)) 8))) = j_ := ⟨_, rfl⟩
            replace H : (if 0 ≤ (ji9) then (spec_l1Get.l0 k1 a0 a1 a2 (wrap64 ((wrap64 (x7_1 * 2)) + (Go.bits .and .i64 (shr .i64 (wrap64 (bt a0 (ji5))) (ji9)) 1))) (wrap64 (x8_1 + 1))) else (none)) = some r := by first | (rw [hji9] at H; exact H) | (simp only [hji9] at H ⊢; exact H)
            have hji9w : (IntKind.i64.wrap (7 - (Int.tmod (wrap64 (a1 + x8_1)) 8))) = ji9 := (i64_w _).trans hji9
            by_cases c10 : 0 ≤ (ji9)
            · rw [if_pos c10] at H
              have c10b0 := eq_true c10
              have c10b1 : decide (0 ≤ (ji9)) = true := decide_eq_true c10
              clear c10
              obtain ⟨ji11, hji11⟩ : ∃ j_ : Int, (shr .i64 (wrap64 (bt a0 (ji5))) (ji9)) = j_ := ⟨_, rfl⟩
              replace H : (spec_l1Get.l0 k1 a0 a1 a2 (wrap64 ((wrap64 (x7_1 * 2)) + (Go.bits .and .i64 (ji11) 1))) (wrap64 (x8_1 + 1))) = some r := by first | (rw [hji11] at H; exact H) | (simp only [hji11] at H ⊢; exact H)
              have hji11_ : ((wrap64 (bt a0 (ji5))) / 2 ^ min (ji9).toNat 64) = ji11 := hji11
              have hji11z : (ji9) ≤ 64 → ((wrap64 (bt a0 (ji5))) / 2 ^ (ji9).toNat) = ji11 := shr_small hji11
              have H' := Aside0.mk H
              clear H
              have p8 : 0 ≤ ((ji5) : Int) := of_decide_eq_true (by first | (with_reducible assumption) | assumption)
              have q8 : (ji5) < (a0.size : Int) := of_decide_eq_true (by first | (with_reducible assumption) | assumption)
              have hx8 := bt_at a0 (ji5)
              replace p8 := eq_true p8
              replace q8 := eq_true q8
              go_wp2
              go_roundg k1
              case measure => have := HK1.out; omega
              case rel => exact ⟨(wrap64 ((wrap64 (x7_1 * 2)) + (Go.bits .and .i64 (ji11) 1))), (wrap64 (x8_1 + 1)), (by first | rfl | (simp; done) | (simp only [← hji11] <;> (first | rfl | simp)) | (simp [*]; done) | (simp only [my_ne_nil]; rfl)), (by first | rfl | (simp; done) | (simp [*]; done) | (simp only [my_ne_nil]; rfl)), H', ⟨by have := HK1.out; omega⟩, by repeat (first | exact Drawn0.refl _ | apply Drawn0.step)⟩
            · rw [if_neg c10] at H
              exact absurd H (by simp)
          · rw [if_neg c7] at H
            exact absurd H (by simp)
        · rw [if_neg c6] at H
          exact absurd H (by simp)
      · rw [if_neg c4] at H
        have c4b0 : decide (x8_1 < a2) = false := decide_eq_false c4
        clear c4
        obtain rfl := Option.some.inj H
        go_wp2
        go_ret
        exact ⟨by first | rfl | (simp; done) | (simp [*]; done) | (simp only [my_ne_nil]; rfl), by repeat (first | exact Drawn0.refl _ | apply Drawn0.step)⟩

/-! ### spec_BitsGet: function 27 -/
def spec_BitsGet.f (k : Nat) (a0 : ByteArray) (a1 : Int) (a2 : Int) : Option (Int × Bool) := (spec_l1In.f a2 1 32).bind fun t101 => (if t101 = true then (if (a0.size : Int) > 751 then (some (0, false)) else ((spec_l1In.f a1 0 (wrap64 ((wrap64 (8 * (a0.size : Int))) - a2))).bind fun t102 => (if t102 = true then ((spec_l1Get.f k a0 a1 a2).bind fun t103 => (some (t103, true))) else (some (0, false))))) else (some (0, false)))
theorem spec_BitsGet.mono : ∀ a0 a1 a2 k, LeO (spec_BitsGet.f k a0 a1 a2) (spec_BitsGet.f (k + 1) a0 a1 a2) := by
  intro a0 a1 a2 k
  unfold spec_BitsGet.f
  repeat' first
      | (with_reducible exact spec_l1Get.mono _ _ _ _)
      | (with_reducible exact LeO.refl _)
      | (with_reducible exact LeO.none _)
      | (with_reducible refine LeO.ite ?_ ?_)
      | (with_reducible refine LeO.bind ?_ (fun _ => ?_))
      | exact spec_l1Get.mono _ _ _ _
      | exact LeO.none _
      | refine LeO.ite ?_ ?_
      | refine LeO.bind ?_ (fun _ => ?_)
set_option maxHeartbeats 8000000 in
set_option maxRecDepth 100000 in
theorem spec_BitsGet.calls (k : Nat) (a0 : ByteArray) (a1 : Int) (a2 : Int) (r1 : Int) (r2 : Bool) (w : World) (h : spec_BitsGet.f k a0 a1 a2 = some (r1, r2)) :
    Calls Try.prog 27 #[.string a0, .int .i64 a1, .int .i64 a2] w fun e w' => e = .returned (.tuple #[.int .i64 r1, .bool r2]) ∧ Drawn0 w w' := by
  have H : ((spec_l1In.f a2 1 32).bind fun t101 => (if t101 = true then (if (a0.size : Int) > 751 then (some (0, false)) else ((spec_l1In.f a1 0 (wrap64 ((wrap64 (8 * (a0.size : Int))) - a2))).bind fun t102 => (if t102 = true then ((spec_l1Get.f k a0 a1 a2).bind fun t103 => (some (t103, true))) else (some (0, false))))) else (some (0, false)))) = some (r1, r2) := h
  clear h
  replace H := Option.bind_eq_some_iff.mp H
  obtain ⟨t101, A40, H⟩ := H
  replace H : (if t101 = true then (if (a0.size : Int) > 751 then (some (0, false)) else ((spec_l1In.f a1 0 (wrap64 ((wrap64 (8 * (a0.size : Int))) - a2))).bind fun t102 => (if t102 = true then ((spec_l1Get.f k a0 a1 a2).bind fun t103 => (some (t103, true))) else (some (0, false))))) else (some (0, false))) = some (r1, r2) := H
  have A4 := Aside0.mk A40
  clear A40
  by_cases c5 : t101 = true
  · subst c5
    have H1 : (if (a0.size : Int) > 751 then (some (0, false)) else ((spec_l1In.f a1 0 (wrap64 ((wrap64 (8 * (a0.size : Int))) - a2))).bind fun t102 => (if t102 = true then ((spec_l1Get.f k a0 a1 a2).bind fun t103 => (some (t103, true))) else (some (0, false))))) = some (r1, r2) := by rw [if_pos rfl] at H; exact H
    clear H
    have H := H1
    clear H1
    by_cases c6 : (a0.size : Int) > 751
    · rw [if_pos c6] at H
      have c6b0 : decide (751 < (a0.size : Int)) = true := decide_eq_true c6
      have c6b1 : decide (751 < a0.size) = true := decide_eq_true (by omega)
      clear c6
      simp only [Option.some.injEq, Prod.mk.injEq] at H
      obtain ⟨rfl, rfl⟩ := H
      go_enter Try.func27, Try.ntmps27
      go_wp2_with (first | ((with_reducible refine gate_callee (f := 40) rfl ?_); refine goesL_ (some 9) rfl rfl Try.func40 (by kernel_rfl) rfl #[.int .i64 a2, .int .i64 1, .int .i64 32] rfl (by (try simp only [List.map_toArray, List.map_cons, List.map_nil]); first | done | rfl | (simp only [List.length_drop, List.length_take]; rfl)) ?_; (with_reducible refine (spec_l1In.calls a2 1 32 true _ A4.out).mono ?_); rintro e w' ⟨rfl, ⟨nd, rfl⟩⟩; refine ⟨_, rfl, ?_⟩))
      go_ret2
      exact ⟨by first | rfl | (simp; done) | (simp [*]; done) | (simp only [my_ne_nil]; rfl), by repeat (first | exact Drawn0.refl _ | apply Drawn0.step)⟩
    · rw [if_neg c6] at H
      have c6b0 : decide (751 < (a0.size : Int)) = false := decide_eq_false c6
      have c6b1 : decide (751 < a0.size) = false := decide_eq_false (by omega)
      clear c6
      replace H := Option.bind_eq_some_iff.mp H
      obtain ⟨t102, A70, H⟩ := H
      replace H : (if t102 = true then ((spec_l1Get.f k a0 a1 a2).bind fun t103 => (some (t103, true))) else (some (0, false))) = some (r1, r2) := H
      have A7 := Aside0.mk A70
      clear A70
      by_cases c8 : t102 = true
      · subst c8
        have H1 : ((spec_l1Get.f k a0 a1 a2).bind fun t103 => (some (t103, true))) = some (r1, r2) := by rw [if_pos rfl] at H; exact H
        clear H
        have H := H1
        clear H1
        replace H := Option.bind_eq_some_iff.mp H
        obtain ⟨t103, A90, H⟩ := H
        replace H : (some (t103, true)) = some (r1, r2) := H
        have A9 := Aside0.mk A90
        clear A90
        simp only [Option.some.injEq, Prod.mk.injEq] at H
        obtain ⟨rfl, rfl⟩ := H
        go_enter Try.func27, Try.ntmps27
        go_wp2_with (first | ((with_reducible refine gate_callee (f := 40) rfl ?_); refine goesL_ (some 9) rfl rfl Try.func40 (by kernel_rfl) rfl #[.int .i64 a2, .int .i64 1, .int .i64 32] rfl (by (try simp only [List.map_toArray, List.map_cons, List.map_nil]); first | done | rfl | (simp only [List.length_drop, List.length_take]; rfl)) ?_; (with_reducible refine (spec_l1In.calls a2 1 32 true _ A4.out).mono ?_); rintro e w' ⟨rfl, ⟨nd, rfl⟩⟩; refine ⟨_, rfl, ?_⟩) | (go_at_call 40; (with_reducible refine (spec_l1In.calls a1 0 (wrap64 ((wrap64 (8 * (a0.size : Int))) - a2)) true _ A7.out).mono ?_); rintro e w' ⟨rfl, ⟨nd, rfl⟩⟩) | ((with_reducible refine gate_callee (f := 42) rfl ?_); refine goesL_ (some 29) rfl rfl Try.func42 (by kernel_rfl) rfl #[.string a0, .int .i64 a1, .int .i64 a2] rfl (by (try simp only [List.map_toArray, List.map_cons, List.map_nil]); first | done | rfl | (simp only [List.length_drop, List.length_take]; rfl)) ?_; (with_reducible refine (spec_l1Get.calls k a0 a1 a2 t103 _ A9.out).mono ?_); rintro e w' ⟨rfl, ⟨nd, rfl⟩⟩; refine ⟨_, rfl, ?_⟩))
        go_ret2
        exact ⟨by first | rfl | (simp; done) | (simp [*]; done) | (simp only [my_ne_nil]; rfl), by repeat (first | exact Drawn0.refl _ | apply Drawn0.step)⟩
      · replace c8 := Bool.eq_false_iff.mpr c8
        subst c8
        have H1 : (some (0, false)) = some (r1, r2) := by rw [if_neg (show ¬ (false = true) by decide)] at H; exact H
        clear H
        have H := H1
        clear H1
        simp only [Option.some.injEq, Prod.mk.injEq] at H
        obtain ⟨rfl, rfl⟩ := H
        go_enter Try.func27, Try.ntmps27
        go_wp2_with (first | ((with_reducible refine gate_callee (f := 40) rfl ?_); refine goesL_ (some 9) rfl rfl Try.func40 (by kernel_rfl) rfl #[.int .i64 a2, .int .i64 1, .int .i64 32] rfl (by (try simp only [List.map_toArray, List.map_cons, List.map_nil]); first | done | rfl | (simp only [List.length_drop, List.length_take]; rfl)) ?_; (with_reducible refine (spec_l1In.calls a2 1 32 true _ A4.out).mono ?_); rintro e w' ⟨rfl, ⟨nd, rfl⟩⟩; refine ⟨_, rfl, ?_⟩) | (go_at_call 40; (with_reducible refine (spec_l1In.calls a1 0 (wrap64 ((wrap64 (8 * (a0.size : Int))) - a2)) false _ A7.out).mono ?_); rintro e w' ⟨rfl, ⟨nd, rfl⟩⟩))
        go_ret2
        exact ⟨by first | rfl | (simp; done) | (simp [*]; done) | (simp only [my_ne_nil]; rfl), by repeat (first | exact Drawn0.refl _ | apply Drawn0.step)⟩
  · replace c5 := Bool.eq_false_iff.mpr c5
    subst c5
    have H1 : (some (0, false)) = some (r1, r2) := by rw [if_neg (show ¬ (false = true) by decide)] at H; exact H
    clear H
    have H := H1
    clear H1
    simp only [Option.some.injEq, Prod.mk.injEq] at H
    obtain ⟨rfl, rfl⟩ := H
    go_enter Try.func27, Try.ntmps27
    go_wp2_with (first | ((with_reducible refine gate_callee (f := 40) rfl ?_); refine goesL_ (some 9) rfl rfl Try.func40 (by kernel_rfl) rfl #[.int .i64 a2, .int .i64 1, .int .i64 32] rfl (by (try simp only [List.map_toArray, List.map_cons, List.map_nil]); first | done | rfl | (simp only [List.length_drop, List.length_take]; rfl)) ?_; (with_reducible refine (spec_l1In.calls a2 1 32 false _ A4.out).mono ?_); rintro e w' ⟨rfl, ⟨nd, rfl⟩⟩; refine ⟨_, rfl, ?_⟩))
    go_ret2
    exact ⟨by first | rfl | (simp; done) | (simp [*]; done) | (simp only [my_ne_nil]; rfl), by repeat (first | exact Drawn0.refl _ | apply Drawn0.step)⟩

/-! ### impl_number: function 43 -/
section
attribute [local go_sem] Oper.semAt_some
def numAsg : Code := (Go.Code.region 3 #[{ dst := some 10, op := Go.Op.assign (Go.Operand.tmp 14), type := 3, pos := "l1_bits.go:61", after := #[], guard := none }] false)
def numBody : Code := (Go.Code.block 1 (((Go.Code.region 4 #[{ dst := some 15, op := Go.Op.load 3 (Go.Operand.tmp 9), type := 3, pos := "l1_bits.go:62", after := #[], guard := none }, { dst := some 16, op := Go.Op.load 3 (Go.Operand.tmp 5), type := 3, pos := "l1_bits.go:62", after := #[], guard := none }, { dst := some 17, op := Go.Op.binOp Go.BinOp.eql 3 (Go.Operand.tmp 15) (Go.Operand.tmp 16) 3, type := 4, pos := "l1_bits.go:62", after := #[{ on := 0, ground := Go.Ground.data }, { on := 1, ground := Go.Ground.data }], guard := none }] false).seq (Go.Code.cond (Go.Operand.tmp 17) (Go.Code.exit 0) Go.Code.skip)).seq ((Go.Code.region 5 #[{ dst := some 18, op := Go.Op.load 3 (Go.Operand.tmp 8), type := 3, pos := "l1_bits.go:65", after := #[], guard := none }, { dst := some 19, op := Go.Op.binOp Go.BinOp.mul 3 (Go.Operand.const (Go.Value.int Go.IntKind.i64 2)) (Go.Operand.tmp 18) 3, type := 3, pos := "l1_bits.go:65", after := #[{ on := 0, ground := Go.Ground.data }], guard := none }, { dst := some 20, op := Go.Op.move (Go.Operand.tmp 10), type := 3, pos := "l1_bits.go:65", after := #[], guard := none }, { dst := some 21, op := Go.Op.binOp Go.BinOp.add 3 (Go.Operand.tmp 19) (Go.Operand.tmp 20) 3, type := 3, pos := "l1_bits.go:65", after := #[{ on := 1, ground := Go.Ground.data }, { on := 2, ground := Go.Ground.data }], guard := none }, { dst := none, op := Go.Op.store 3 (Go.Operand.tmp 8) (Go.Operand.tmp 21), type := 0, pos := "l1_bits.go:65", after := #[{ on := 3, ground := Go.Ground.data }, { on := 0, ground := Go.Ground.phase }, { on := 1, ground := Go.Ground.phase }, { on := 2, ground := Go.Ground.phase }, { on := 3, ground := Go.Ground.phase }], guard := none }] false).seq (Go.Code.region 6 #[{ dst := some 22, op := Go.Op.load 3 (Go.Operand.tmp 9), type := 3, pos := "l1_bits.go:66", after := #[], guard := none }, { dst := some 23, op := Go.Op.binOp Go.BinOp.add 3 (Go.Operand.tmp 22) (Go.Operand.const (Go.Value.int Go.IntKind.i64 1)) 3, type := 3, pos := "l1_bits.go:66", after := #[{ on := 0, ground := Go.Ground.data }], guard := none }, { dst := none, op := Go.Op.store 3 (Go.Operand.tmp 9) (Go.Operand.tmp 23), type := 0, pos := "l1_bits.go:66", after := #[{ on := 1, ground := Go.Ground.data }, { on := 0, ground := Go.Ground.phase }, { on := 1, ground := Go.Ground.phase }], guard := none }] false))))
def numT (s : ByteArray) (at_ wide b : Nat) (x : Value) : Array Value := #[.string s, .int .i64 at_, .int .i64 wide, undef, undef, .pointer (some ⟨b, 0, none⟩), .int .i64 0, .bool false, .pointer (some ⟨b + 1, 0, none⟩), .pointer (some ⟨b + 2, 0, none⟩), undef, .string s, .int .i64 at_, .func (.func 56) #[] #[.pointer (some ⟨b + 4, 0, none⟩), .pointer (some ⟨b + 3, 0, none⟩)], x, undef, undef, undef, undef, undef, undef, undef, undef, undef, undef, undef, undef, undef]
def numRec (fn : FuncId) (s : ByteArray) (at_ wide b D : Nat) (st : LoopState) (pend : Option Code) : Loop := { state := st, pending := pend, fn, tmps := numT s at_ wide b undef, params := #[14], assign := numAsg, body := numBody, defers := D }
/-- Between two rounds: k bits have come, the iterator stands at p. -/
structure NumAt (fn : FuncId) (w0 : World) (s : ByteArray) (at_ wide b l D : Nat) (st : LoopState) (pend : Option Code) (k p : Nat) (W : World) : Prop where
  cw : W.cell? ⟨b, 0, none⟩ = some (.int .i64 wide)
  cn : W.cell? ⟨b + 1, 0, none⟩ = some (.int .i64 (numV s at_ k))
  fN : W.frozen? ⟨b + 1, 0, none⟩ = false
  cm : W.cell? ⟨b + 2, 0, none⟩ = some (.int .i64 k)
  fM : W.frozen? ⟨b + 2, 0, none⟩ = false
  ct : W.cell? ⟨b + 3, 0, none⟩ = some (.string s)
  ca : W.cell? ⟨b + 4, 0, none⟩ = some (.int .i64 p)
  fA : W.frozen? ⟨b + 4, 0, none⟩ = false
  L : W.heap[l]? = some (.loop (numRec fn s at_ wide b D st pend))
  K : W.heap[D]? = some (.deferred (some []))
  B : Below w0.heap.size w0 W
variable {fn : FuncId} {w0 W : World} {s : ByteArray} {at_ wide b l D k p : Nat} {st : LoopState} {pend : Option Code}
theorem NumAt.put (h : NumAt fn w0 s at_ wide b l D st pend k p W) (hb : w0.heap.size ≤ b) (hD : b + 5 ≤ D) (hl : D < l) (st' : LoopState) (pend' : Option Code) : NumAt fn w0 s at_ wide b l D st' pend' k p (W.putObj l (.loop (numRec fn s at_ wide b D st' pend'))) := by
  have hlt : l < W.heap.size := (Array.getElem?_eq_some_iff.1 h.L).1
  have c : ∀ a v, W.cell? ⟨a, 0, none⟩ = some v → a ≠ l → (W.putObj l (.loop (numRec fn s at_ wide b D st' pend'))).cell? ⟨a, 0, none⟩ = some v := fun a v hv hne => (World.cell?_of_block (World.putObj_heap_other (k := a) hne)).trans hv
  have f : ∀ a, W.frozen? ⟨a, 0, none⟩ = false → a ≠ l → (W.putObj l (.loop (numRec fn s at_ wide b D st' pend'))).frozen? ⟨a, 0, none⟩ = false := fun a hv hne => (World.frozen?_of_block (World.putObj_heap_other (k := a) hne)).trans hv
  exact ⟨c _ _ h.cw (by omega), c _ _ h.cn (by omega), f _ h.fN (by omega), c _ _ h.cm (by omega), f _ h.fM (by omega), c _ _ h.ct (by omega), c _ _ h.ca (by omega), f _ h.fA (by omega), World.putObj_heap_same hlt, (World.putObj_heap_other (by omega)).trans h.K,
    OwnFrom.putObj (β := Unit) (ownFrom_below (Nat.le_refl _) (Nat.le_refl _)) (s := ()) _ h.B (by omega) h.L rfl⟩
theorem NumAt.drew (h : NumAt fn w0 s at_ wide b l D st pend k p W) : NumAt fn w0 s at_ wide b l D st pend k p W.drew := ⟨h.cw, h.cn, h.fN, h.cm, h.fM, h.ct, h.ca, h.fA, h.L, h.K, h.B.drew⟩
/-- One cell of ours is written. -/
theorem cell_far_ {W : World} {a c : Nat} (v : Value) (h : c ≠ a) : (W.setCell ⟨c, 0, none⟩ v).cell? ⟨a, 0, none⟩ = W.cell? ⟨a, 0, none⟩ := World.cell?_setCell_far W ⟨c, 0, none⟩ ⟨a, 0, none⟩ v h
theorem NumAt.round (h : NumAt fn w0 s at_ wide b l D st pend k p W) (hb : w0.heap.size ≤ b) (hD : b + 5 ≤ D) (hl : D < l) : NumAt fn w0 s at_ wide b l D st pend (k + 1) p ((W.setCell ⟨b + 1, 0, none⟩ (.int .i64 (numV s at_ (k + 1)))).setCell ⟨b + 2, 0, none⟩ (.int .i64 (k + 1 : Nat))) := by
  refine ⟨?_, ?_, ?_, ?_, ?_, ?_, ?_, ?_, ?_, ?_, ?_⟩
  · rw [cell_far_ _ (by omega), cell_far_ _ (by omega)]; exact h.cw
  · rw [cell_far_ _ (by omega)]; exact World.cell?_setCell_same' _ _ _ (by rw [h.cn]; rfl)
  · rw [World.frozen?_setCell, World.frozen?_setCell]; exact h.fN
  · exact World.cell?_setCell_same' _ _ _ (by rw [cell_far_ _ (by omega), h.cm]; rfl)
  · rw [World.frozen?_setCell, World.frozen?_setCell]; exact h.fM
  · rw [cell_far_ _ (by omega), cell_far_ _ (by omega)]; exact h.ct
  · rw [cell_far_ _ (by omega), cell_far_ _ (by omega)]; exact h.ca
  · rw [World.frozen?_setCell, World.frozen?_setCell]; exact h.fA
  · exact (Below.heap_setCell _ _ _ l (by simp only; omega)).trans ((Below.heap_setCell _ _ _ l (by simp only; omega)).trans h.L)
  · exact (Below.heap_setCell _ _ _ D (by simp only; omega)).trans ((Below.heap_setCell _ _ _ D (by simp only; omega)).trans h.K)
  · exact (h.B.setCell (by simp only; omega) _).setCell (by simp only; omega) _
theorem NumAt.next (h : NumAt fn w0 s at_ wide b l D st pend k p W) (hb : w0.heap.size ≤ b) (hD : b + 5 ≤ D) (hl : D < l) : NumAt fn w0 s at_ wide b l D st pend k (p + 1) (W.setCell ⟨b + 4, 0, none⟩ (.int .i64 (p + 1 : Nat))) := by
  refine ⟨?_, ?_, ?_, ?_, ?_, ?_, ?_, ?_, ?_, ?_, ?_⟩
  · rw [cell_far_ _ (by omega)]; exact h.cw
  · rw [cell_far_ _ (by omega)]; exact h.cn
  · rw [World.frozen?_setCell]; exact h.fN
  · rw [cell_far_ _ (by omega)]; exact h.cm
  · rw [World.frozen?_setCell]; exact h.fM
  · rw [cell_far_ _ (by omega)]; exact h.ct
  · exact World.cell?_setCell_same' _ _ _ (by rw [h.ca]; rfl)
  · rw [World.frozen?_setCell]; exact h.fA
  · exact (Below.heap_setCell _ _ _ l (by simp only; omega)).trans h.L
  · exact (Below.heap_setCell _ _ _ D (by simp only; omega)).trans h.K
  · exact h.B.setCell (by simp only; omega) _
set_option maxHeartbeats 2000000 in
set_option maxRecDepth 100000 in
/-- ONE ROUND that goes on. -/
theorem numYield_on (F : Fence) (m : Nat) (hfn : F.fn fn) (hb : w0.heap.size ≤ b) (hD : b + 5 ≤ D) (hl : D < l) (hw : wide ≤ 60) (h : NumAt fn w0 s at_ wide b l D .ready none k p W) (x : Int) (hx : x = bitOf s (at_ + k)) (hk : k < wide) :
    YieldAt F m Try.prog l #[.int .i64 x] W fun e W' => e = .returned (.bool true) ∧ NumAt fn w0 s at_ wide b l D .ready none (k + 1) p W' := by
  refine ⟨fn, numT s at_ wide b (.int .i64 x), numAsg, numBody, by simpa [numRec, numT] using run_yield (P := Try.prog) (args := #[.int .i64 x]) h.L rfl, roundIn_of_wpIn hfn ?_⟩
  have hbr := run_beginRound (P := Try.prog) h.L rfl
  have h2 := h.put hb hD hl .busy none
  have hWW : W.putObj l (.loop { numRec fn s at_ wide b D .ready none with state := .busy }) = W.putObj l (.loop (numRec fn s at_ wide b D .busy none)) := rfl
  rw [hWW] at hbr
  obtain ⟨W2, hW2⟩ : ∃ W2, W.putObj l (.loop (numRec fn s at_ wide b D .busy none)) = W2 := ⟨_, rfl⟩
  rw [hW2] at hbr h2
  clear hW2 hWW
  have H2 := Aside0.mk h2
  have HK := Aside0.mk hk
  have HX := Aside0.mk hx
  have cw := h2.cw
  have cn := h2.cn
  have fN := h2.fN
  have cm := h2.cm
  have fM := h2.fM
  have nr := numV_small s at_ k (by omega)
  have xr := bitOf_range s (at_ + k)
  rw [← hx] at xr
  obtain ⟨n0, hn0⟩ : ∃ n, numV s at_ k = n := ⟨_, rfl⟩
  have HN := Aside0.mk hn0
  rw [hn0] at cn nr
  have t1 : ((k : Int) == (wide : Int)) = false := beq_eq_false_iff_ne.mpr (by omega)
  have t2 : (k == wide) = false := beq_eq_false_iff_ne.mpr (by omega)
  clear h h2 hn0 hx hk
  unfold numT numAsg
  gi_wp2
  refine ⟨W2, hbr, ?_⟩
  unfold numBody
  gi_wp2
  have e1 : 2 * n0 + x = numV s at_ (k + 1) := by rw [numV, HN.out, ← HX.out]
  have e2 : wrap64 ((k : Int) + 1) = ((k + 1 : Nat) : Int) := by
    have := HK.out
    unfold wrap64
    omega
  rw [e1, e2]
  have h3 := H2.out.round hb hD hl
  exact ⟨_, _, run_endRound none h3.L, rfl, h3.put hb hD hl .ready none⟩
set_option maxHeartbeats 2000000 in
set_option maxRecDepth 100000 in
/-- ONE ROUND that breaks off. -/
theorem numYield_off (F : Fence) (m : Nat) (hfn : F.fn fn) (hb : w0.heap.size ≤ b) (hD : b + 5 ≤ D) (hl : D < l) (hw : wide ≤ 60) (h : NumAt fn w0 s at_ wide b l D .ready none k p W) (x : Int) (hk : k = wide) :
    YieldAt F m Try.prog l #[.int .i64 x] W fun e W' => e = .returned (.bool false) ∧ NumAt fn w0 s at_ wide b l D .done (some (.exit 0)) k p W' := by
  refine ⟨fn, numT s at_ wide b (.int .i64 x), numAsg, numBody, by simpa [numRec, numT] using run_yield (P := Try.prog) (args := #[.int .i64 x]) h.L rfl, roundIn_of_wpIn hfn ?_⟩
  have hbr := run_beginRound (P := Try.prog) h.L rfl
  have h2 := h.put hb hD hl .busy none
  have hWW : W.putObj l (.loop { numRec fn s at_ wide b D .ready none with state := .busy }) = W.putObj l (.loop (numRec fn s at_ wide b D .busy none)) := rfl
  rw [hWW] at hbr
  obtain ⟨W2, hW2⟩ : ∃ W2, W.putObj l (.loop (numRec fn s at_ wide b D .busy none)) = W2 := ⟨_, rfl⟩
  rw [hW2] at hbr h2
  clear hW2 hWW
  have H2 := Aside0.mk h2
  have cw := h2.cw
  have cm := h2.cm
  have t1 : ((k : Int) == (wide : Int)) = true := beq_iff_eq.mpr (by omega)
  have t2 : (k == wide) = true := beq_iff_eq.mpr (by omega)
  clear h h2 hk
  unfold numT numAsg
  gi_wp2
  refine ⟨W2, hbr, ?_⟩
  unfold numBody
  gi_wp2
  have h3 := H2.out
  exact ⟨_, _, run_endRound (some (.exit 0)) h3.L, rfl, h3.put hb hD hl .done (some (.exit 0))⟩
set_option maxHeartbeats 1000000 in
theorem bitsFrom_in (F : Fence) (n : Nat) (hF : F.fn 55) (hro : F.round = none) (s : ByteArray) (at_ : Int) (w : World) :
    CallsIn F n Try.prog 55 #[.string s, .int .i64 at_] w fun e w' => e = .returned (.func (.func 56) #[] #[.pointer (some ⟨w.heap.size + 1, 0, none⟩), .pointer (some ⟨w.heap.size, 0, none⟩)]) ∧ w' = (w.alloc (.cells #[.string s] 9)).alloc (.cells #[.int .i64 at_] 3) := by
  refine callsIn_of_wp Try.func55 rfl hF ?_ hro
  simp only [Try.ntmps55, List.size_toArray, List.length_cons, List.length_nil, Nat.reduceAdd, Nat.reduceSub, Array.replicate_succ, Array.replicate_zero, List.push_toArray, List.append_toArray, List.nil_append, List.cons_append]
  gi_wp2
  go_ret
  exact ⟨rfl, rfl⟩
def atOf (b : Nat) (W : World) : Nat := match W.cell? ⟨b + 4, 0, none⟩ with
  | some (.int _ n) => n.toNat
  | _ => 0
theorem atOf_eq {b p : Nat} {W : World} (h : W.cell? ⟨b + 4, 0, none⟩ = some (.int .i64 p)) : atOf b W = p := by
  unfold atOf
  rw [h]
  rfl
set_option maxHeartbeats 4000000 in
set_option maxRecDepth 100000 in
theorem bits_in (n : Nat) (hn : 1 ≤ n) (hb : w0.heap.size ≤ b) (hD : b + 5 ≤ D) (hl : D < l) (hw : wide ≤ 60) (hs : s.size ≤ 1048576) (hat : at_ ≤ 1073741824) (W : World) (h : NumAt fn w0 s at_ wide b l D .ready none 0 at_ W) :
    CallsIn Fence.wide n Try.prog 56 #[.func (.yield l) #[] #[], .pointer (some ⟨b + 4, 0, none⟩), .pointer (some ⟨b + 3, 0, none⟩)] W fun e W' => (∃ v, e = .returned v) ∧ ∃ k p, k ≤ wide ∧ (k = 0 ∨ at_ + k ≤ 8 * s.size) ∧ ((NumAt fn w0 s at_ wide b l D .done (some (.exit 0)) k p W' ∧ k = wide) ∨ (NumAt fn w0 s at_ wide b l D .ready none k p W' ∧ 8 * s.size ≤ at_ + k)) := by
  refine callsIn_of_wp Try.func56 rfl trivial ?_ rfl
  simp only [Try.ntmps56, List.size_toArray, List.length_cons, List.length_nil, Nat.reduceAdd, Nat.reduceSub, Array.replicate_succ, Array.replicate_zero, List.push_toArray, List.append_toArray, List.nil_append, List.cons_append]
  have H0 := Aside0.mk h
  clear h
  have hmx : Try.prog.follows .mixedOrders = true := by kernel_rfl
  gi_wp2
  gi_loopw [4] (fun _ wr => ∃ k, k ≤ wide ∧ (k = 0 ∨ at_ + k ≤ 8 * s.size) ∧ Aside0 (NumAt fn w0 s at_ wide b l D .ready none k (at_ + k) wr)) (fun _ wr => 8 * s.size - atOf b wr)
  case atStart => exact ⟨0, Nat.zero_le _, Or.inl rfl, H0⟩
  case round =>
    clear H0
    obtain ⟨k, hk, hk8, HA⟩ := hrel
    have ct := HA.out.ct
    have ca := HA.out.ca
    have fA := HA.out.fA
    obtain ⟨p, hp⟩ : ∃ p, at_ + k = p := ⟨_, rfl⟩
    rw [hp] at ca hk8 HA
    by_cases hlt : p < 8 * s.size
    · have t1 : decide ((p : Int) < 8 * (s.size : Int)) = true := decide_eq_true (by omega)
      have hp8 : p / 8 < s.size := by omega
      obtain ⟨y, hy⟩ : ∃ y : Int, ((s[p / 8]'hp8).toNat : Int) = y := ⟨_, rfl⟩
      have hy' : ∀ h : p / 8 < s.size, ((s[p / 8]'h).toNat : Int) = y := fun _ => hy
      have w1 : IntKind.i64.wrap ((p : Int) / 8) = ((p / 8 : Nat) : Int) := by rw [IntWalk.i64_in _ (by omega)]; omega
      have w2 : IntKind.i64.wrap (7 - (p : Int) % 8) = ((7 - p % 8 : Nat) : Int) := by rw [IntWalk.i64_in _ (by omega)]; omega
      have q4 : ((p / 8 : Nat) : Int) < (s.size : Int) := by omega
      have q5 : (0 ≤ ((p / 8 : Nat) : Int)) = True := eq_true (by omega)
      have q6 : (((p / 8 : Nat) : Int) < (s.size : Int)) = True := eq_true q4
      have hy2 : ∀ h : ((p : Int) / 8).toNat < s.size, ((s[((p : Int) / 8).toNat]'h).toNat : Int) = y := fun h => by
        have e : ((p : Int) / 8).toNat = p / 8 := by omega
        simp only [e]
        exact hy
      have yr : 0 ≤ y ∧ y ≤ 255 := by have := (s[p / 8]'hp8).toNat_lt; omega
      have w3 : IntKind.i64.wrap y = y := IntWalk.i64_in _ (by omega)
      have w4 : Int.tmod (p : Int) 8 = (p : Int) % 8 := Int.tmod_eq_emod_of_nonneg (by omega)
      obtain ⟨c, hc⟩ : ∃ c : Nat, 7 - p % 8 = c := ⟨_, rfl⟩
      rw [hc] at w2
      have q7 : (0 ≤ (c : Int)) = True := eq_true (by omega)
      have q8 : ((c : Int) < 0) = False := eq_false (by omega)
      have q1 : (0 ≤ (p : Int) / 8) = True := eq_true (by omega)
      have q2 : ((p : Int) / 8 < (s.size : Int)) = True := eq_true (by omega)
      have q3 : (0 ≤ 7 - (p : Int) % 8) = True := eq_true (by omega)
      have hbit := bitOf_eq s p c hp8 y hy hc
      obtain ⟨x, hx⟩ : ∃ x, bitOf s p = x := ⟨_, rfl⟩
      rw [hx] at hbit
      have HP := Aside0.mk hp
      have HX := Aside0.mk hx
      have H8 := Aside0.mk hk8
      by_cases hkw : k < wide
      · obtain ⟨f1, tm1, a1, b1, hy1, hR1⟩ := numYield_on (fn := fn) (k := k) Fence.wide (n - 1) trivial hb hD hl hw HA.out.drew x (by rw [hp, hx]) hkw
        have HR1 := Aside0.mk hR1
        have HLT := Aside0.mk hlt
        have HKW := Aside0.mk hkw
        have HBD := Aside0.mk (And.intro hb (And.intro hD hl))
        have e2 : wrap64 ((p : Int) + 1) = ((p + 1 : Nat) : Int) := by unfold wrap64; omega
        have E2 := Aside0.mk e2
        clear hk8 hp hx hkw e2
        gi_wp2
        clear hR1 hk hb hD hl hw hs hat yr hlt
        gi_region_with_o (refine HR1.out.mono ?_; rintro e W3 ⟨rfl, hJ⟩; have HJ := Aside0.mk hJ; clear hJ hy1; dsimp only)
        all_goals
          have ca3 := HJ.out.ca
          have fA3 := HJ.out.fA
          gi_wp2
          rw [E2.out]
          have h3 := HJ.out.next HBD.out.1 HBD.out.2.1 HBD.out.2.2
          have e_ : at_ + (k + 1) = p + 1 := by have := HP.out; omega
          go_roundw
          case rel => exact ⟨k + 1, by have := HKW.out; omega, Or.inr (by have := HLT.out; omega), ⟨by rw [e_]; exact h3⟩⟩
          case measure => rw [atOf_eq h3.ca, atOf_eq HA.out.ca]; have := HLT.out; omega
      · obtain ⟨f1, tm1, a1, b1, hy1, hR1⟩ := numYield_off (fn := fn) (k := k) Fence.wide (n - 1) trivial hb hD hl hw HA.out.drew x (by omega)
        have HR1 := Aside0.mk hR1
        have HKW := Aside0.mk (show k = wide by omega)
        clear hk8 hp hx hkw
        gi_wp2
        clear hR1 hk hb hD hl hw hs hat yr hlt
        gi_region_with_o (refine HR1.out.mono ?_; rintro e W3 ⟨rfl, hJ⟩; have HJ := Aside0.mk hJ; clear hJ hy1; dsimp only)
        all_goals
          gi_wp2
          refine bodyPost_ret (results_none rfl _ _ _) rfl ?_
          exact ⟨⟨_, rfl⟩, k, p, by have := HKW.out; omega, by have := HP.out; have h_ := H8.out; rw [this]; exact h_, Or.inl ⟨HJ.out, HKW.out⟩⟩
    · have t1 : decide ((p : Int) < 8 * (s.size : Int)) = false := decide_eq_false (by omega)
      gi_wp2
      go_end0
      exact ⟨⟨_, rfl⟩, k, p, hk, hp ▸ hk8, Or.inr ⟨HA.out, by omega⟩⟩
set_option maxHeartbeats 2000000 in
set_option maxRecDepth 100000 in
theorem number_in (n : Nat) (hn : 3 ≤ n) (s : ByteArray) (at_ wide : Nat) (hw : wide ≤ 60) (hs : s.size ≤ 1048576) (hat : at_ ≤ 1073741824) (w : World) :
    CallsIn Fence.wide n Try.prog 43 #[.string s, .int .i64 at_, .int .i64 wide] w fun e w' => (∃ k, (k ≤ wide ∧ (k = 0 ∨ at_ + k ≤ 8 * s.size) ∧ (k = wide ∨ 8 * s.size ≤ at_ + k)) ∧ e = .returned (.tuple #[.int .i64 (numV s at_ k), .bool (k == wide)])) ∧ Below w.heap.size w w' := by
  refine callsIn_of_wp_marks Try.func43 rfl trivial ?_ rfl
  simp only [Try.ntmps43, List.size_toArray, List.length_cons, List.length_nil, Nat.reduceAdd, Nat.reduceSub, Array.replicate_succ, Array.replicate_zero, List.push_toArray, List.append_toArray, List.nil_append, List.cons_append]
  have h1 : 1 ≤ n := by omega
  have hf1 : Fence.wide.fn 55 := trivial
  gi_wp2_with (gi_at_call 55; refine (bitsFrom_in Fence.wide (n - 1) trivial rfl _ _ _).mono ?_; rintro e w' ⟨rfl, rfl⟩)
  refine wpIn_rangeFunc ?_
  intro fn hfn
  have hro : Fence.wide.round = none := rfl
  rw [hro]
  simp only [Nat.add_assoc, Nat.reduceAdd]
  obtain ⟨W0, hW0⟩ : ∃ W0, (((((w.alloc (.cells #[.int .i64 wide] 3)).alloc (.cells #[.int .i64 0] 3)).alloc (.cells #[.int .i64 0] 3)).alloc (.cells #[.string s] 9)).alloc (.cells #[.int .i64 at_] 3)) = W0 := ⟨_, rfl⟩
  have hs0 : W0.heap.size = w.heap.size + 5 := by rw [← hW0]; simp
  have cw : W0.cell? ⟨w.heap.size, 0, none⟩ = some (.int .i64 wide) := by rw [← hW0]; clear hW0; go_simp
  have cn : W0.cell? ⟨w.heap.size + 1, 0, none⟩ = some (.int .i64 0) := by rw [← hW0]; clear hW0; go_simp
  have cm : W0.cell? ⟨w.heap.size + 2, 0, none⟩ = some (.int .i64 0) := by rw [← hW0]; clear hW0; go_simp
  have ct : W0.cell? ⟨w.heap.size + 3, 0, none⟩ = some (.string s) := by rw [← hW0]; clear hW0; go_simp
  have ca : W0.cell? ⟨w.heap.size + 4, 0, none⟩ = some (.int .i64 at_) := by rw [← hW0]; clear hW0; go_simp
  have fN : W0.frozen? ⟨w.heap.size + 1, 0, none⟩ = false := by rw [← hW0]; clear hW0; go_simp
  have fM : W0.frozen? ⟨w.heap.size + 2, 0, none⟩ = false := by rw [← hW0]; clear hW0; go_simp
  have fA : W0.frozen? ⟨w.heap.size + 4, 0, none⟩ = false := by rw [← hW0]; clear hW0; go_simp
  have B0 : Below w.heap.size w W0 := by rw [← hW0]; repeat (first | exact Below.refl _ _ | apply below_alloc)
  rw [hW0]
  clear hW0
  obtain ⟨b, hb⟩ : ∃ b, w.heap.size = b := ⟨_, rfl⟩
  simp only [hb] at cw cn cm ct ca fN fM fA hs0 ⊢
  obtain ⟨W1, hW1⟩ : ∃ W1, (W0.alloc (.deferred (some []))).alloc (.loop (numRec fn s at_ wide b W0.heap.size .ready none)) = W1 := ⟨_, rfl⟩
  have hold : ∀ k, k < W0.heap.size → W1.heap[k]? = W0.heap[k]? := fun k hk => by
    rw [← hW1]; exact (Below.heap_alloc _ _ k (by simp; omega)).trans (Below.heap_alloc _ _ k hk)
  have c : ∀ k v, k < W0.heap.size → W0.cell? ⟨k, 0, none⟩ = some v → W1.cell? ⟨k, 0, none⟩ = some v := fun k v hk h => (World.cell?_of_block (hold k hk)).trans h
  have f : ∀ k, k < W0.heap.size → W0.frozen? ⟨k, 0, none⟩ = false → W1.frozen? ⟨k, 0, none⟩ = false := fun k hk h => (World.frozen?_of_block (hold k hk)).trans h
  have hM : NumAt fn w s at_ wide b (W0.heap.size + 1) W0.heap.size .ready none 0 at_ W1 :=
    ⟨c _ _ (by omega) cw, c _ _ (by omega) cn, f _ (by omega) fN, c _ _ (by omega) cm, f _ (by omega) fM, c _ _ (by omega) ct, c _ _ (by omega) ca, f _ (by omega) fA,
     by rw [← hW1]; have := World.alloc_heap_new (W0.alloc (.deferred (some []))) (.loop (numRec fn s at_ wide b W0.heap.size .ready none)); rwa [World.size_alloc] at this,
     by rw [← hW1]; exact (Below.heap_alloc _ _ _ (by simp)).trans (World.alloc_heap_new W0 _),
     by rw [← hW1]; repeat (first | exact B0 | apply below_alloc)⟩
  refine ⟨W0.heap.size + 1, [{ target := .collected W0.heap.size, args := #[] }], W1, { target := .fn (.func 56) #[.pointer (some ⟨b + 4, 0, none⟩), .pointer (some ⟨b + 3, 0, none⟩)], args := #[.func (.yield (W0.heap.size + 1)) #[] #[]] }, W1, 56,
    #[.func (.yield (W0.heap.size + 1)) #[] #[], .pointer (some ⟨b + 4, 0, none⟩), .pointer (some ⟨b + 3, 0, none⟩)], W1, ?_, ?_, ?_, ?_, fun _ => h1, ?_⟩
  · rw [← hW1]; exact run_enterLoop_outer _ _ _ _ _
  · simp [resolve, go_sem]
  · intro f' hf'; trivial
  · simp [invoke, go_sem]
  · refine (bits_in (n - 1) (by omega) (by omega) (by omega) (by omega) hw hs hat W1 hM).mono ?_
    rintro e W2 ⟨⟨v, rfl⟩, k, p, hk, hk8, ⟨h2, hkw⟩ | ⟨h2, hk9⟩⟩
    · have hend := run_endLoop (P := Try.prog) h2.L (by simp [numRec])
      obtain ⟨W3, hW3⟩ : ∃ W3, W2.putObj (W0.heap.size + 1) (.loop { numRec fn s at_ wide b W0.heap.size .done (some (.exit 0)) with state := .exhausted }) = W3 := ⟨_, rfl⟩
      rw [hW3] at hend
      have e3 : ∀ a, a ≠ W0.heap.size + 1 → W3.heap[a]? = W2.heap[a]? := fun a ha => by rw [← hW3]; exact World.putObj_heap_other ha
      have cn3 : W3.cell? ⟨b + 1, 0, none⟩ = some (.int .i64 (numV s at_ k)) := (World.cell?_of_block (e3 (b + 1) (by omega))).trans h2.cn
      have cm3 : W3.cell? ⟨b + 2, 0, none⟩ = some (.int .i64 k) := (World.cell?_of_block (e3 (b + 2) (by omega))).trans h2.cm
      have cw3 : W3.cell? ⟨b, 0, none⟩ = some (.int .i64 wide) := (World.cell?_of_block (e3 b (by omega))).trans h2.cw
      have hK3 : W3.heap[W0.heap.size]? = some (.deferred (some [])) := (e3 _ (by omega)).trans h2.K
      have B3 : Below w.heap.size w W3 := by rw [← hW3]; exact OwnFrom.putObj (β := Unit) (ownFrom_below (Nat.le_refl _) (Nat.le_refl _)) (s := ()) _ h2.B (by omega) h2.L rfl
      clear hW3
      refine ⟨some (.exit 0), W3, hend, ?_⟩
      have hmx : Try.prog.follows .mixedOrders = true := by kernel_rfl
      gi_wp2
      gi_region_o
      gi_wp2
      simp only [hs0] at hK3
      refine ⟨by simp, .inl ⟨_, _, rfl, run_takeDeferred (w := W3.drew) hK3, ?_⟩⟩
      exact ⟨_, results_tmp2 rfl _ _ _, ⟨wide, ⟨Nat.le_refl _, hkw ▸ hk8, Or.inl rfl⟩, by rw [beq_self_eq_true]; rfl⟩, OwnFrom.putObj (β := Unit) (ownFrom_below (Nat.le_refl _) (Nat.le_refl _)) (s := ()) _ B3.drew (by omega) hK3 rfl⟩
    · have hend := run_endLoop (P := Try.prog) h2.L (by simp [numRec])
      obtain ⟨W3, hW3⟩ : ∃ W3, W2.putObj (W0.heap.size + 1) (.loop { numRec fn s at_ wide b W0.heap.size .ready none with state := .exhausted }) = W3 := ⟨_, rfl⟩
      rw [hW3] at hend
      have e3 : ∀ a, a ≠ W0.heap.size + 1 → W3.heap[a]? = W2.heap[a]? := fun a ha => by rw [← hW3]; exact World.putObj_heap_other ha
      have cn3 : W3.cell? ⟨b + 1, 0, none⟩ = some (.int .i64 (numV s at_ k)) := (World.cell?_of_block (e3 (b + 1) (by omega))).trans h2.cn
      have cm3 : W3.cell? ⟨b + 2, 0, none⟩ = some (.int .i64 k) := (World.cell?_of_block (e3 (b + 2) (by omega))).trans h2.cm
      have cw3 : W3.cell? ⟨b, 0, none⟩ = some (.int .i64 wide) := (World.cell?_of_block (e3 b (by omega))).trans h2.cw
      have hK3 : W3.heap[W0.heap.size]? = some (.deferred (some [])) := (e3 _ (by omega)).trans h2.K
      have B3 : Below w.heap.size w W3 := by rw [← hW3]; exact OwnFrom.putObj (β := Unit) (ownFrom_below (Nat.le_refl _) (Nat.le_refl _)) (s := ()) _ h2.B (by omega) h2.L rfl
      clear hW3
      refine ⟨none, W3, hend, ?_⟩
      have hmx : Try.prog.follows .mixedOrders = true := by kernel_rfl
      gi_wp2
      gi_region_o
      gi_wp2
      simp only [hs0] at hK3
      refine ⟨by simp, .inl ⟨_, _, rfl, run_takeDeferred (w := W3.drew) hK3, ?_⟩⟩
      exact ⟨_, results_tmp2 rfl _ _ _, ⟨k, ⟨hk, hk8, Or.inr hk9⟩, by rw [show ((k : Int) == (wide : Int)) = (k == wide) from Bool.eq_iff_iff.mpr (by rw [beq_iff_eq, beq_iff_eq]; omega)]; rfl⟩, OwnFrom.putObj (β := Unit) (ownFrom_below (Nat.le_refl _) (Nat.le_refl _)) (s := ()) _ B3.drew (by omega) hK3 rfl⟩
def impl_number.f (s : ByteArray) (a1 a2 : Int) : Option (Int × Bool) := if s.size ≤ 1048576 ∧ 0 ≤ a1 ∧ a1 ≤ 1073741824 ∧ 0 ≤ a2 ∧ a2 ≤ 60 then some (numV s a1.toNat (min a2.toNat (8 * s.size - a1.toNat)), decide (a2.toNat ≤ 8 * s.size - a1.toNat)) else none
theorem impl_number.calls (a0 : ByteArray) (a1 a2 : Int) (r1 : Int) (r2 : Bool) (w : World) (h : impl_number.f a0 a1 a2 = some (r1, r2)) :
    Calls Try.prog 43 #[.string a0, .int .i64 a1, .int .i64 a2] w fun e w' => e = .returned (.tuple #[.int .i64 r1, .bool r2]) ∧ Below w.heap.size w w' := by
  unfold impl_number.f at h
  split at h
  case isFalse => cases h
  case isTrue hs =>
  obtain ⟨hs, h1, h2, h3, h4⟩ := hs
  obtain ⟨at_, rfl⟩ := Int.eq_ofNat_of_zero_le h1
  obtain ⟨wide, rfl⟩ := Int.eq_ofNat_of_zero_le h3
  refine (callsIn_wide.1 (number_in 3 (Nat.le_refl _) a0 at_ wide (by omega) hs (by omega) w)).mono ?_
  rintro e w' ⟨⟨k, ⟨hk, hk8, hkw⟩, rfl⟩, hb⟩
  refine ⟨?_, hb⟩
  have e1 : k = min wide (8 * a0.size - at_) := by omega
  have e2 : (k == wide) = decide (wide ≤ 8 * a0.size - at_) := by
    rw [← Bool.coe_iff_coe, beq_iff_eq, decide_eq_true_iff]
    omega
  have h_ := Option.some.inj h
  simp only [Int.ofNat_eq_natCast, Int.toNat_natCast, Prod.mk.injEq] at h_
  rw [← h_.1, ← h_.2, e2, ← e1]
end

/-! ### impl_BitsGet: function 28 -/
def impl_BitsGet.f (a0 : ByteArray) (a1 : Int) (a2 : Int) : Option (Int × Bool) := if a2 < 1 then (some (0, false)) else (if a2 > 32 then (some (0, false)) else (if a1 < 0 then (some (0, false)) else (if (a0.size : Int) > 751 then (some (0, false)) else (if a1 > (wrap64 ((wrap64 (8 * (a0.size : Int))) - a2)) then (some (0, false)) else ((impl_number.f a0 a1 a2).bind fun bt104 => (some (bt104.1, bt104.2)))))))
set_option maxHeartbeats 8000000 in
set_option maxRecDepth 100000 in
theorem impl_BitsGet.calls (a0 : ByteArray) (a1 : Int) (a2 : Int) (r1 : Int) (r2 : Bool) (w : World) (h : impl_BitsGet.f a0 a1 a2 = some (r1, r2)) :
    Calls Try.prog 28 #[.string a0, .int .i64 a1, .int .i64 a2] w fun e w' => e = .returned (.tuple #[.int .i64 r1, .bool r2]) ∧ Below w.heap.size w w' := by
  have HB := Aside0.mk (Below.refl w.heap.size w)
  have H : (if a2 < 1 then (some (0, false)) else (if a2 > 32 then (some (0, false)) else (if a1 < 0 then (some (0, false)) else (if (a0.size : Int) > 751 then (some (0, false)) else (if a1 > (wrap64 ((wrap64 (8 * (a0.size : Int))) - a2)) then (some (0, false)) else ((impl_number.f a0 a1 a2).bind fun bt104 => (some (bt104.1, bt104.2)))))))) = some (r1, r2) := h
  clear h
  by_cases c4 : a2 < 1
  · rw [if_pos c4] at H
    have c4b0 : decide (a2 < 1) = true := decide_eq_true c4
    clear c4
    simp only [Option.some.injEq, Prod.mk.injEq] at H
    obtain ⟨rfl, rfl⟩ := H
    go_enter Try.func28, Try.ntmps28
    go_wp2
    go_ret2
    exact ⟨by first | rfl | (simp [errW_none, errW_some] <;> rfl) | (simp [*, errW_none, errW_some] <;> rfl), by repeat (first | (with_reducible first | exact HB.out | apply below_alloc | apply pw_below_drewN | apply below_drew1) | exact HB.out)⟩
  · rw [if_neg c4] at H
    have c4b0 : decide (a2 < 1) = false := decide_eq_false c4
    clear c4
    by_cases c5 : a2 > 32
    · rw [if_pos c5] at H
      have c5b0 : decide (32 < a2) = true := decide_eq_true c5
      clear c5
      simp only [Option.some.injEq, Prod.mk.injEq] at H
      obtain ⟨rfl, rfl⟩ := H
      go_enter Try.func28, Try.ntmps28
      go_wp2
      go_ret2
      exact ⟨by first | rfl | (simp [errW_none, errW_some] <;> rfl) | (simp [*, errW_none, errW_some] <;> rfl), by repeat (first | (with_reducible first | exact HB.out | apply below_alloc | apply pw_below_drewN | apply below_drew1) | exact HB.out)⟩
    · rw [if_neg c5] at H
      have c5b0 : decide (32 < a2) = false := decide_eq_false c5
      clear c5
      by_cases c6 : a1 < 0
      · rw [if_pos c6] at H
        have c6b0 : decide (a1 < 0) = true := decide_eq_true c6
        clear c6
        simp only [Option.some.injEq, Prod.mk.injEq] at H
        obtain ⟨rfl, rfl⟩ := H
        go_enter Try.func28, Try.ntmps28
        go_wp2
        go_ret2
        exact ⟨by first | rfl | (simp [errW_none, errW_some] <;> rfl) | (simp [*, errW_none, errW_some] <;> rfl), by repeat (first | (with_reducible first | exact HB.out | apply below_alloc | apply pw_below_drewN | apply below_drew1) | exact HB.out)⟩
      · rw [if_neg c6] at H
        have c6b0 : decide (a1 < 0) = false := decide_eq_false c6
        clear c6
        by_cases c7 : (a0.size : Int) > 751
        · rw [if_pos c7] at H
          have c7b0 : decide (751 < (a0.size : Int)) = true := decide_eq_true c7
          have c7b1 : decide (751 < a0.size) = true := decide_eq_true (by omega)
          clear c7
          simp only [Option.some.injEq, Prod.mk.injEq] at H
          obtain ⟨rfl, rfl⟩ := H
          go_enter Try.func28, Try.ntmps28
          go_wp2
          go_ret2
          exact ⟨by first | rfl | (simp [errW_none, errW_some] <;> rfl) | (simp [*, errW_none, errW_some] <;> rfl), by repeat (first | (with_reducible first | exact HB.out | apply below_alloc | apply pw_below_drewN | apply below_drew1) | exact HB.out)⟩
        · rw [if_neg c7] at H
          have c7b0 : decide (751 < (a0.size : Int)) = false := decide_eq_false c7
          have c7b1 : decide (751 < a0.size) = false := decide_eq_false (by omega)
          clear c7
          by_cases c8 : a1 > (wrap64 ((wrap64 (8 * (a0.size : Int))) - a2))
          · rw [if_pos c8] at H
            have c8b0 : decide ((wrap64 ((wrap64 (8 * (a0.size : Int))) - a2)) < a1) = true := decide_eq_true c8
            clear c8
            simp only [Option.some.injEq, Prod.mk.injEq] at H
            obtain ⟨rfl, rfl⟩ := H
            go_enter Try.func28, Try.ntmps28
            go_wp2
            go_ret2
            exact ⟨by first | rfl | (simp [errW_none, errW_some] <;> rfl) | (simp [*, errW_none, errW_some] <;> rfl), by repeat (first | (with_reducible first | exact HB.out | apply below_alloc | apply pw_below_drewN | apply below_drew1) | exact HB.out)⟩
          · rw [if_neg c8] at H
            have c8b0 : decide ((wrap64 ((wrap64 (8 * (a0.size : Int))) - a2)) < a1) = false := decide_eq_false c8
            clear c8
            replace H := Option.bind_eq_some_iff.mp H
            obtain ⟨⟨t104, t105⟩, A90, H⟩ := H
            replace H : (some (t104, t105)) = some (r1, r2) := H
            have A9 := Aside0.mk A90
            clear A90
            simp only [Option.some.injEq, Prod.mk.injEq] at H
            obtain ⟨rfl, rfl⟩ := H
            go_enter Try.func28, Try.ntmps28
            go_wp2_with (first | ((with_reducible refine gate_callee (f := 43) rfl ?_); refine goesL_ (some 35) rfl rfl Try.func43 (by kernel_rfl) rfl #[.string a0, .int .i64 a1, .int .i64 a2] rfl (by (try simp only [List.map_toArray, List.map_cons, List.map_nil]); first | done | rfl | (simp only [List.length_drop, List.length_take]; rfl)) ?_; (with_reducible refine (impl_number.calls a0 a1 a2 t104 t105 _ A9.out).mono ?_); rintro e w10 ⟨rfl, hb⟩; refine ⟨_, rfl, ?_⟩; have n0_ := Aside0.mk (below_step (by repeat (first | (with_reducible first | exact HB.out | apply below_alloc | apply pw_below_drewN | apply below_drew1) | exact HB.out)) hb); clear HB; have HB := n0_; clear n0_; (try clear hb); (try clear hb2); (try clear hk); (try clear hi)))
            go_ret2
            exact ⟨by first | rfl | (simp [errW_none, errW_some] <;> rfl) | (simp [*, errW_none, errW_some] <;> rfl), by repeat (first | (with_reducible first | exact HB.out | apply below_alloc | apply pw_below_drewN | apply below_drew1) | exact HB.out)⟩

end Go.Proofs.Ytidapbdlomjgcaa.QFnBitsGet
