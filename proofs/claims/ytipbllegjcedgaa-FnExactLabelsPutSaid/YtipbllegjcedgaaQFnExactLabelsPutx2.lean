-- Written by wip/tools/mk.py (this session's program, which runs the kit's print): functions, and proofs that the machine's calls do what they say.
import Derived.Test.YtipbllegjcedgaaQFnExactLabelsPutx0
import Derived.Test.YtipbllegjcedgaaQFnExactLabelsPutx1
namespace Go.Proofs.Ytipbllegjcedgaa.QFnExactLabelsPut
open Go.RowKit Go.Proofs.YtipbllegjcedgaaW.PrintWords Go.Proofs.YtipbllegjcedgaaW.PrintLast Go.Proofs.YtipbllegjcedgaaW.PrintMore
attribute [local go_sem] IntKind.wrap_u8 max2_int min2_int max_two min_two max_three min_three max_four min_four   -- for this text's walks alone
set_option linter.unusedVariables false
set_option linter.unusedSimpArgs false

/-! ### spec_LabelsOk: function 19 -/
def spec_LabelsOk.f (l0 : List Lbl) : Option Bool := if bdL l0 = true then some (labelsB l0) else none
set_option maxHeartbeats 4000000 in
set_option maxRecDepth 100000 in
theorem spec_LabelsOk.calls (A0 : Option Addr) (c0 : Nat) (l0 : List Lbl) (r : Bool) (w : World) (hr0 : Kd.C k52 w A0 l0.length l0) (hc0 : l0.length ≤ c0) (h : spec_LabelsOk.f l0 = some r) :
    Calls Try.prog 19 #[.slice A0 l0.length c0] w fun e w' => e = .returned (.bool r) ∧ Drawn0 w w' := by
  unfold spec_LabelsOk.f at h
  split at h
  case isFalse => cases h
  case isTrue hs =>
  have hr := Aside0.mk (Option.some.inj h).symm
  clear h
  have hu := Try.underlying52
  have HR0 := Aside0.mk hr0
  have HC0 := Aside0.mk hc0
  have HS := Aside0.mk hs
  have hN := bdL_len hs
  clear hr0 hc0 hs
  go_enter Try.func19, Try.ntmps19
  go_wp2
  go_loopw [3] (fun v wr => ∃ k : Nat, k ≤ l0.length ∧ v = .int .i64 k ∧ Aside0 (r = (chainP lblR lblLt (prevG l0 z52 k) (l0.drop k) && decide (1 ≤ l0.length ∧ l0.length ≤ 4))) ∧ Aside0 (Drawn0 w wr)) (fun v _ => l0.length - (intOf v).toNat)
  case atStart => exact ⟨0, Nat.zero_le _, rfl, ⟨hr.out⟩, ⟨Drawn0.refl _⟩⟩
  case round =>
    obtain ⟨k, hk, rfl, HA, HD⟩ := hrel
    by_cases hlt : k < l0.length
    · have c0b : decide ((k : Int) < (l0.length : Int)) = true := decide_eq_true (by omega)
      obtain ⟨ad, e, hx0, hx1⟩ := at_T52 HR0.out (k : Int) (by omega) (by omega)
      cases e
      have e1 : (k : Int).toNat = k := by omega
      have e2 : rd_T52 l0 (k : Int) = l0.getD k z52 := by unfold rd_T52; rw [e1]
      rw [e1, e2] at hx0 hx1
      replace hx0 := ((Drawn0.below HD.out).cell (World.block_lt_of_cell? w _ hx0)).trans hx0
      replace hx1 := ((Drawn0.below HD.out).cell (World.block_lt_of_cell? w _ hx1)).trans hx1
      have hmem : l0.getD k z52 ∈ l0 := by rw [getD_at hlt]; exact List.getElem_mem _
      have hb := bdL_at HS.out hmem
      have N1 := Aside0.mk (chainP_no1 lblR lblLt l0 z52 k hlt)
      have N2 := Aside0.mk (chainP_no2 lblR lblLt l0 z52 k hlt)
      have N3 := Aside0.mk (fun h0 : k = 0 => chainP_on0 lblR lblLt l0 z52 (by omega))
      have N4 := Aside0.mk (chainP_on lblR lblLt l0 z52 k hlt)
      clear e1 e2 hmem
      obtain ⟨x, hx⟩ : ∃ x, l0.getD k z52 = x := ⟨_, rfl⟩
      rw [hx] at hx0 hx1 hb N1 N2 N4
      have hR : lblR x = ((lettersB x.f0 6 && (x.f0.toList != [])) && lettersB x.f1 8 && (x.f1.toList != [])) := rfl
      have HX := Aside0.mk hx
      obtain ⟨nm, hnm⟩ : ∃ s, x.f0 = s := ⟨_, rfl⟩
      obtain ⟨wd, hwd⟩ : ∃ s, x.f1 = s := ⟨_, rfl⟩
      have HNM := Aside0.mk hnm
      rw [hnm, hwd] at hR hb
      rw [hnm] at hx0
      rw [hwd] at hx1
      have HRr := Aside0.mk hR
      clear hx hnm hwd hR
      have p : (0 ≤ (k : Int)) = True := eq_true (by omega)
      have q : ((k : Int) < (l0.length : Int)) = True := eq_true (by omega)
      have c1 : ∀ (b : Bool), (lettersB nm 6 && (nm.toList != [])) = b → ∀ w, Calls Try.prog 46 #[.string nm] w fun e w' => e = .returned (.bool b) ∧ Drawn0 w w' := fun b hb' w => spec_l3Name.calls nm b w (by unfold spec_l3Name.f; rw [if_pos hb.1, hb'])
      have c2 : ∀ (b : Bool), lettersB wd 8 = b → ∀ w, Calls Try.prog 47 #[.string wd, .int .i64 8] w fun e w' => e = .returned (.bool b) ∧ Drawn0 w w' := fun b hb' w => spec_l3Letters.calls wd 8 b w (by unfold spec_l3Letters.f; rw [if_pos hb.2, hb'])
      clear hb
      cases b1 : (lettersB nm 6 && (nm.toList != []))
      · have C1 := Aside0.mk (c1 false b1)
        have B1 := Aside0.mk b1
        clear c1 c2 b1
        go_wp2_with fail
        go_quiet ((go_at_call 46; exact quiet_D (C1.out _)))
        go_wp2
        go_ret
        exact ⟨by rw [HA.out, N1.out (by rw [HRr.out, B1.out]; rfl)]; rfl, by obtain ⟨m, hm⟩ := HD.out; exact ⟨⟨m + _, by rw [hm, World.drewN_drewN]⟩⟩⟩
      have C1 := Aside0.mk (c1 true b1)
      have B1 := Aside0.mk b1
      clear c1 b1
      cases b2 : lettersB wd 8
      · have C2 := Aside0.mk (c2 false b2)
        have B2 := Aside0.mk b2
        clear c2 b2
        go_wp2_with fail
        go_quiet ((first | (go_at_call 46; exact quiet_D (C1.out _)) | (go_at_call 47; exact quiet_D (C2.out _))))
        go_wp2
        go_ret
        exact ⟨by rw [HA.out, N1.out (by rw [HRr.out, B1.out, B2.out]; rfl)]; rfl, by obtain ⟨m, hm⟩ := HD.out; exact ⟨⟨m + _, by rw [hm, World.drewN_drewN]⟩⟩⟩
      have C2 := Aside0.mk (c2 true b2)
      have B2 := Aside0.mk b2
      clear c2 b2
      by_cases b3 : wd.toList = ([] : List UInt8)
      · have b3a : (wd.toList == ([] : List UInt8)) = true := beq_iff_eq.mpr b3
        have B3 := Aside0.mk b3
        clear b3
        go_wp2_with fail
        go_quiet ((first | (go_at_call 46; exact quiet_D (C1.out _)) | (go_at_call 47; exact quiet_D (C2.out _))))
        go_wp2
        go_ret
        exact ⟨by rw [HA.out, N1.out (by rw [HRr.out, B1.out, B2.out, B3.out]; rfl)]; rfl, by obtain ⟨m, hm⟩ := HD.out; exact ⟨⟨m + _, by rw [hm, World.drewN_drewN]⟩⟩⟩
      have b3a : (wd.toList == ([] : List UInt8)) = false := beq_eq_false_iff_ne.mpr b3
      have BR := Aside0.mk (show lblR x = true by rw [HRr.out, B1.out, B2.out]; simpa using b3)
      clear b3
      by_cases b4 : k = 0
      · have b4a : decide (0 < (k : Int)) = false := decide_eq_false (by omega)
        have b4n : decide (0 < k) = false := decide_eq_false (by omega)
        have B4 := Aside0.mk b4
        clear b4
        go_wp2_with fail
        go_quiet ((first | (go_at_call 46; exact quiet_D (C1.out _)) | (go_at_call 47; exact quiet_D (C2.out _))))
        go_wp2
        go_roundw
        case rel => exact ⟨k + 1, by omega, by go_num, ⟨by have e := N3.out B4.out (by rw [← B4.out, HX.out]; exact BR.out); rw [HA.out]; rw [B4.out]; rw [e]⟩, ⟨by obtain ⟨m, hm⟩ := HD.out; exact ⟨⟨m + _, by rw [hm, World.drewN_drewN]⟩⟩⟩⟩
        case measure => simp [intOf]; omega
      obtain ⟨j, hj⟩ : ∃ j : Nat, k = j + 1 := ⟨k - 1, by omega⟩
      have b4a : decide (0 < (k : Int)) = true := decide_eq_true (by omega)
      have b4n : decide (0 < k) = true := decide_eq_true (by omega)
      have jw : IntKind.i64.wrap ((k : Int) - 1) = (j : Int) := by rw [IntWalk.i64_in _ (by omega)]; omega
      have p2 : (0 ≤ (j : Int)) = True := eq_true (by omega)
      have q2 : ((j : Int) < (l0.length : Int)) = True := eq_true (by omega)
      obtain ⟨ad2, e, hy0, hy1⟩ := at_T52 HR0.out (j : Int) (by omega) (by omega)
      obtain rfl : ad = ad2 := by injection e
      have e1 : (j : Int).toNat = j := by omega
      have e2 : rd_T52 l0 (j : Int) = l0.getD (k - 1) z52 := by unfold rd_T52; rw [e1, hj]; rfl
      rw [e1, e2] at hy0
      replace hy0 := ((Drawn0.below HD.out).cell (World.block_lt_of_cell? w _ hy0)).trans hy0
      clear e e1 e2 hy1 b4
      obtain ⟨y, hy⟩ : ∃ y, l0.getD (k - 1) z52 = y := ⟨_, rfl⟩
      rw [hy] at hy0 N2 N4
      have HY := Aside0.mk hy
      obtain ⟨pn, hpn⟩ : ∃ s, y.f0 = s := ⟨_, rfl⟩
      have HPN := Aside0.mk hpn
      rw [hpn] at hy0
      have HJ := Aside0.mk hj
      clear hy hpn hj
      have hl : lblLt y x = Op.bytesLess pn.toList nm.toList := by unfold lblLt; rw [HPN.out, HNM.out]
      have HL := Aside0.mk hl
      clear hl
      cases b5 : Op.bytesLess pn.toList nm.toList
      · have B5 := Aside0.mk b5
        go_wp2_with fail
        go_quiet ((first | (go_at_call 46; exact quiet_D (C1.out _)) | (go_at_call 47; exact quiet_D (C2.out _))))
        go_wp2
        go_ret
        exact ⟨by rw [HA.out, N2.out (by have := HJ.out; omega) (HL.out.trans B5.out)]; rfl, by obtain ⟨m, hm⟩ := HD.out; exact ⟨⟨m + _, by rw [hm, World.drewN_drewN]⟩⟩⟩
      · have B5 := Aside0.mk b5
        go_wp2_with fail
        go_quiet ((first | (go_at_call 46; exact quiet_D (C1.out _)) | (go_at_call 47; exact quiet_D (C2.out _))))
        go_wp2
        go_roundw
        case rel => exact ⟨k + 1, by omega, by go_num, ⟨by rw [HA.out, N4.out (by have := HJ.out; omega) BR.out (HL.out.trans B5.out)]⟩, ⟨by obtain ⟨m, hm⟩ := HD.out; exact ⟨⟨m + _, by rw [hm, World.drewN_drewN]⟩⟩⟩⟩
        case measure => simp [intOf]; omega
    · have c0b : decide ((k : Int) < (l0.length : Int)) = false := decide_eq_false (by omega)
      have HE := Aside0.mk (chainP_end lblR lblLt l0 (prevG l0 z52 k) k (by omega))
      have HI : ∀ w, Calls Try.prog 48 #[.int .i64 (l0.length : Int), .int .i64 1, .int .i64 4] w fun e w' => e = .returned (.bool (decide (1 ≤ l0.length) && decide (l0.length ≤ 4))) ∧ Drawn0 w w' := fun w => spec_l1In.calls _ _ _ _ w (by
        unfold spec_l1In.f
        by_cases c : (l0.length : Int) ≥ 1
        · rw [if_pos c, decide_eq_true (show 1 ≤ l0.length by omega), Bool.true_and]; congr 1; exact decide_eq_decide.mpr (by omega)
        · rw [if_neg c, decide_eq_false (show ¬ 1 ≤ l0.length by omega), Bool.false_and])
      have HI' := Aside0.mk HI
      clear HI
      go_wp2_with (go_at_call 48; refine (HI'.out _).mono ?_; rintro e w' ⟨rfl, ⟨nd, rfl⟩⟩)
      go_ret
      exact ⟨by rw [HA.out, HE.out, Bool.true_and, Bool.decide_and]; rfl, by obtain ⟨m, hm⟩ := HD.out; exact ⟨⟨m + _, by rw [hm, World.drewN_drewN]⟩⟩⟩

/-! ### spec_l3Put: function 41 -/
def spec_l3Put.l0 : Nat → List (S52) → ByteArray → Int → Option (ByteArray)
  | 0, _, _, _ => none
  | k + 1, x0, x3, x4 => if x4 < (x0.length : Int) then (if x4 > 0 then (if x3.size + 1 ≤ 9223372036854775807 then (if 0 ≤ x4 then (if (x3 ++ (⟨#[44]⟩ : ByteArray)).size + ((rd_T52 x0 x4).f0).size ≤ 9223372036854775807 then (if ((x3 ++ (⟨#[44]⟩ : ByteArray)) ++ ((rd_T52 x0 x4).f0)).size + 1 ≤ 9223372036854775807 then (if (((x3 ++ (⟨#[44]⟩ : ByteArray)) ++ ((rd_T52 x0 x4).f0)) ++ (⟨#[61]⟩ : ByteArray)).size + ((rd_T52 x0 x4).f1).size ≤ 9223372036854775807 then (spec_l3Put.l0 k x0 ((((x3 ++ (⟨#[44]⟩ : ByteArray)) ++ ((rd_T52 x0 x4).f0)) ++ (⟨#[61]⟩ : ByteArray)) ++ ((rd_T52 x0 x4).f1)) (wrap64 (x4 + 1))) else (none)) else (none)) else (none)) else (none)) else (none)) else (if 0 ≤ x4 then (if x3.size + ((rd_T52 x0 x4).f0).size ≤ 9223372036854775807 then (if (x3 ++ ((rd_T52 x0 x4).f0)).size + 1 ≤ 9223372036854775807 then (if ((x3 ++ ((rd_T52 x0 x4).f0)) ++ (⟨#[61]⟩ : ByteArray)).size + ((rd_T52 x0 x4).f1).size ≤ 9223372036854775807 then (spec_l3Put.l0 k x0 (((x3 ++ ((rd_T52 x0 x4).f0)) ++ (⟨#[61]⟩ : ByteArray)) ++ ((rd_T52 x0 x4).f1)) (wrap64 (x4 + 1))) else (none)) else (none)) else (none)) else (none))) else (if x3.size + 1 ≤ 9223372036854775807 then (some (x3 ++ (⟨#[125]⟩ : ByteArray))) else (none))
def spec_l3Put.f (k : Nat) (l0 : List (S52)) : Option (ByteArray) := spec_l3Put.l0 k l0 (⟨#[123]⟩ : ByteArray) 0
theorem spec_l3Put.mono_l : ∀ k, (∀ y0 y1 y2, LeO (spec_l3Put.l0 k y0 y1 y2) (spec_l3Put.l0 (k + 1) y0 y1 y2))
  | 0 => fun _ _ _ r h => by simp [spec_l3Put.l0] at h
  | k + 1 => by
    have ih0 := spec_l3Put.mono_l k
    · intro y0 y1 y2
      unfold spec_l3Put.l0
      repeat' first
      | (with_reducible exact ih0 _ _ _)
      | (with_reducible exact LeO.refl _)
      | (with_reducible exact LeO.none _)
      | (with_reducible refine LeO.ite ?_ ?_)
      | (with_reducible refine LeO.bind ?_ (fun _ => ?_))
      | exact ih0 _ _ _
      | exact LeO.none _
      | refine LeO.ite ?_ ?_
      | refine LeO.bind ?_ (fun _ => ?_)
theorem spec_l3Put.mono : ∀ a0 k, LeO (spec_l3Put.f k a0) (spec_l3Put.f (k + 1) a0) := by
  intro a0 k
  have ih0 := spec_l3Put.mono_l k
  unfold spec_l3Put.f
  repeat' first
      | (with_reducible exact ih0 _ _ _)
      | (with_reducible exact LeO.refl _)
      | (with_reducible exact LeO.none _)
      | (with_reducible refine LeO.ite ?_ ?_)
      | (with_reducible refine LeO.bind ?_ (fun _ => ?_))
      | exact ih0 _ _ _
      | exact LeO.none _
      | refine LeO.ite ?_ ?_
      | refine LeO.bind ?_ (fun _ => ?_)
set_option maxHeartbeats 8000000 in
set_option maxRecDepth 100000 in
theorem spec_l3Put.calls (k : Nat) (A0 : Option Addr) (c0 : Nat) (l0 : List (S52)) (r : ByteArray) (w : World) (hr0 : Kd.C k52 w A0 l0.length l0) (hc0 : l0.length ≤ c0) (h : spec_l3Put.f k l0 = some r) :
    Calls Try.prog 41 #[.slice A0 l0.length c0] w fun e w' => e = .returned (.string r) ∧ Drawn0 w w' := by
  have HR0 := Aside0.mk hr0
  have HC0 := Aside0.mk hc0
  clear hr0 hc0
  have H : (spec_l3Put.l0 k l0 (⟨#[123]⟩ : ByteArray) 0) = some r := h
  clear h
  have H' := Aside0.mk H
  clear H
  go_enter Try.func41, Try.ntmps41
  go_wp2
  repeat (go_quiet (fail); try go_wp2)
  go_loopg [3, 4] k (fun kq v3 v4 w' => ∃ (x3_1 : ByteArray) (x4_1 : Int), v3 = .string x3_1 ∧ v4 = .int .i64 x4_1 ∧ Aside0 (spec_l3Put.l0 kq l0 x3_1 x4_1 = some r) ∧ Aside0 (kq ≤ k) ∧ Drawn0 w w')
  case atStart => exact ⟨((⟨#[123]⟩ : ByteArray)), (0), (by first | rfl | (simp; done) | (simp [*]; done) | (simp only [my_ne_nil]; rfl)), (by first | rfl | (simp; done) | (simp [*]; done) | (simp only [my_ne_nil]; rfl)), H', ⟨Nat.le_refl _⟩, by repeat (first | exact Drawn0.refl _ | apply Drawn0.step)⟩
  case round =>
    clear H'
    obtain ⟨x3_1, x4_1, rfl, rfl, HA, HK1, ⟨m1, rfl⟩⟩ := hrel
    cases gk with
    | zero => exact absurd HA.out (by simp [spec_l3Put.l0])
    | succ k1 =>
      have H := HA.out
      clear HA
      simp only [spec_l3Put.l0] at H
      by_cases c2 : x4_1 < (l0.length : Int)
      · rw [if_pos c2] at H
        have c2b0 : decide (x4_1 < (l0.length : Int)) = true := decide_eq_true c2
        clear c2
        by_cases c3 : x4_1 > 0
        · rw [if_pos c3] at H
          have c3b0 : decide (0 < x4_1) = true := decide_eq_true c3
          clear c3
          by_cases c4 : x3_1.size + 1 ≤ 9223372036854775807
          · rw [if_pos c4] at H
            have c4b0 := eq_true c4
            have c4b1 : decide (x3_1.size + 1 ≤ 9223372036854775807) = true := decide_eq_true c4
            try have c4b2 : (9223372036854775807 < x3_1.size + 1) = False := eq_false (Nat.not_lt.2 c4)
            by_cases c5 : 0 ≤ x4_1
            · rw [if_pos c5] at H
              have c5b0 : decide (0 ≤ x4_1) = true := decide_eq_true c5
              clear c5
              by_cases c6 : (x3_1 ++ (⟨#[44]⟩ : ByteArray)).size + ((rd_T52 l0 x4_1).f0).size ≤ 9223372036854775807
              · rw [if_pos c6] at H
                have c6b0 := eq_true c6
                have c6b1 : decide ((x3_1 ++ (⟨#[44]⟩ : ByteArray)).size + ((rd_T52 l0 x4_1).f0).size ≤ 9223372036854775807) = true := decide_eq_true c6
                try have c6b2 : (9223372036854775807 < (x3_1 ++ (⟨#[44]⟩ : ByteArray)).size + ((rd_T52 l0 x4_1).f0).size) = False := eq_false (Nat.not_lt.2 c6)
                (try (have c6b5 := c6b2; simp only [ByteArray.size_append, show (⟨#[44]⟩ : ByteArray).size = 1 from rfl] at c6b5))
                by_cases c7 : ((x3_1 ++ (⟨#[44]⟩ : ByteArray)) ++ ((rd_T52 l0 x4_1).f0)).size + 1 ≤ 9223372036854775807
                · rw [if_pos c7] at H
                  have c7b0 := eq_true c7
                  have c7b1 : decide (((x3_1 ++ (⟨#[44]⟩ : ByteArray)) ++ ((rd_T52 l0 x4_1).f0)).size + 1 ≤ 9223372036854775807) = true := decide_eq_true c7
                  try have c7b2 : (9223372036854775807 < ((x3_1 ++ (⟨#[44]⟩ : ByteArray)) ++ ((rd_T52 l0 x4_1).f0)).size + 1) = False := eq_false (Nat.not_lt.2 c7)
                  (try (have c7b5 := c7b2; simp only [ByteArray.size_append, show (⟨#[44]⟩ : ByteArray).size = 1 from rfl] at c7b5))
                  by_cases c8 : (((x3_1 ++ (⟨#[44]⟩ : ByteArray)) ++ ((rd_T52 l0 x4_1).f0)) ++ (⟨#[61]⟩ : ByteArray)).size + ((rd_T52 l0 x4_1).f1).size ≤ 9223372036854775807
                  · rw [if_pos c8] at H
                    have c8b0 := eq_true c8
                    have c8b1 : decide ((((x3_1 ++ (⟨#[44]⟩ : ByteArray)) ++ ((rd_T52 l0 x4_1).f0)) ++ (⟨#[61]⟩ : ByteArray)).size + ((rd_T52 l0 x4_1).f1).size ≤ 9223372036854775807) = true := decide_eq_true c8
                    try have c8b2 : (9223372036854775807 < (((x3_1 ++ (⟨#[44]⟩ : ByteArray)) ++ ((rd_T52 l0 x4_1).f0)) ++ (⟨#[61]⟩ : ByteArray)).size + ((rd_T52 l0 x4_1).f1).size) = False := eq_false (Nat.not_lt.2 c8)
                    (try (have c8b5 := c8b2; simp only [ByteArray.size_append, show (⟨#[44]⟩ : ByteArray).size = 1 from rfl, show (⟨#[61]⟩ : ByteArray).size = 1 from rfl] at c8b5))
                    have H' := Aside0.mk H
                    clear H
                    have p119 : 0 ≤ (x4_1 : Int) := of_decide_eq_true (by first | (with_reducible assumption) | assumption)
                    have q119 : x4_1 < (l0.length : Int) := of_decide_eq_true (by first | (with_reducible assumption) | assumption)
                    obtain ⟨ad119, e119, hx119_0, hx119_1⟩ := at_T52 HR0.out x4_1 p119 q119
                    cases e119
                    replace p119 := eq_true p119
                    replace q119 := eq_true q119
                    have p120 : 0 ≤ (x4_1 : Int) := of_decide_eq_true (by first | (with_reducible assumption) | assumption)
                    have q120 : x4_1 < (l0.length : Int) := of_decide_eq_true (by first | (with_reducible assumption) | assumption)
                    obtain ⟨ad120, e120, hx120_0, hx120_1⟩ := at_T52 HR0.out x4_1 p120 q120
                    obtain rfl : ad119 = ad120 := (by injection e120)
                    replace p120 := eq_true p120
                    replace q120 := eq_true q120
                    go_wp2
                    repeat (go_quiet (fail); try go_wp2)
                    go_roundg k1
                    case measure => have := HK1.out; omega
                    case rel => exact ⟨((((x3_1 ++ (⟨#[44]⟩ : ByteArray)) ++ ((rd_T52 l0 x4_1).f0)) ++ (⟨#[61]⟩ : ByteArray)) ++ ((rd_T52 l0 x4_1).f1)), (wrap64 (x4_1 + 1)), (by first | rfl | (simp; done) | (simp [*]; done) | (simp only [my_ne_nil]; rfl)), (by first | rfl | (simp; done) | (simp [*]; done) | (simp only [my_ne_nil]; rfl)), H', ⟨by have := HK1.out; omega⟩, by repeat (first | exact Drawn0.refl _ | apply Drawn0.step)⟩
                  · rw [if_neg c8] at H
                    exact absurd H (by simp)
                · rw [if_neg c7] at H
                  exact absurd H (by simp)
              · rw [if_neg c6] at H
                exact absurd H (by simp)
            · rw [if_neg c5] at H
              exact absurd H (by simp)
          · rw [if_neg c4] at H
            exact absurd H (by simp)
        · rw [if_neg c3] at H
          have c3b0 : decide (0 < x4_1) = false := decide_eq_false c3
          clear c3
          by_cases c9 : 0 ≤ x4_1
          · rw [if_pos c9] at H
            have c9b0 : decide (0 ≤ x4_1) = true := decide_eq_true c9
            clear c9
            by_cases c10 : x3_1.size + ((rd_T52 l0 x4_1).f0).size ≤ 9223372036854775807
            · rw [if_pos c10] at H
              have c10b0 := eq_true c10
              have c10b1 : decide (x3_1.size + ((rd_T52 l0 x4_1).f0).size ≤ 9223372036854775807) = true := decide_eq_true c10
              try have c10b2 : (9223372036854775807 < x3_1.size + ((rd_T52 l0 x4_1).f0).size) = False := eq_false (Nat.not_lt.2 c10)
              by_cases c11 : (x3_1 ++ ((rd_T52 l0 x4_1).f0)).size + 1 ≤ 9223372036854775807
              · rw [if_pos c11] at H
                have c11b0 := eq_true c11
                have c11b1 : decide ((x3_1 ++ ((rd_T52 l0 x4_1).f0)).size + 1 ≤ 9223372036854775807) = true := decide_eq_true c11
                try have c11b2 : (9223372036854775807 < (x3_1 ++ ((rd_T52 l0 x4_1).f0)).size + 1) = False := eq_false (Nat.not_lt.2 c11)
                (try (have c11b5 := c11b2; simp only [ByteArray.size_append] at c11b5))
                by_cases c12 : ((x3_1 ++ ((rd_T52 l0 x4_1).f0)) ++ (⟨#[61]⟩ : ByteArray)).size + ((rd_T52 l0 x4_1).f1).size ≤ 9223372036854775807
                · rw [if_pos c12] at H
                  have c12b0 := eq_true c12
                  have c12b1 : decide (((x3_1 ++ ((rd_T52 l0 x4_1).f0)) ++ (⟨#[61]⟩ : ByteArray)).size + ((rd_T52 l0 x4_1).f1).size ≤ 9223372036854775807) = true := decide_eq_true c12
                  try have c12b2 : (9223372036854775807 < ((x3_1 ++ ((rd_T52 l0 x4_1).f0)) ++ (⟨#[61]⟩ : ByteArray)).size + ((rd_T52 l0 x4_1).f1).size) = False := eq_false (Nat.not_lt.2 c12)
                  (try (have c12b5 := c12b2; simp only [ByteArray.size_append, show (⟨#[61]⟩ : ByteArray).size = 1 from rfl] at c12b5))
                  have H' := Aside0.mk H
                  clear H
                  have p121 : 0 ≤ (x4_1 : Int) := of_decide_eq_true (by first | (with_reducible assumption) | assumption)
                  have q121 : x4_1 < (l0.length : Int) := of_decide_eq_true (by first | (with_reducible assumption) | assumption)
                  obtain ⟨ad121, e121, hx121_0, hx121_1⟩ := at_T52 HR0.out x4_1 p121 q121
                  cases e121
                  replace p121 := eq_true p121
                  replace q121 := eq_true q121
                  have p122 : 0 ≤ (x4_1 : Int) := of_decide_eq_true (by first | (with_reducible assumption) | assumption)
                  have q122 : x4_1 < (l0.length : Int) := of_decide_eq_true (by first | (with_reducible assumption) | assumption)
                  obtain ⟨ad122, e122, hx122_0, hx122_1⟩ := at_T52 HR0.out x4_1 p122 q122
                  obtain rfl : ad121 = ad122 := (by injection e122)
                  replace p122 := eq_true p122
                  replace q122 := eq_true q122
                  go_wp2
                  repeat (go_quiet (fail); try go_wp2)
                  go_roundg k1
                  case measure => have := HK1.out; omega
                  case rel => exact ⟨(((x3_1 ++ ((rd_T52 l0 x4_1).f0)) ++ (⟨#[61]⟩ : ByteArray)) ++ ((rd_T52 l0 x4_1).f1)), (wrap64 (x4_1 + 1)), (by first | rfl | (simp; done) | (simp [*]; done) | (simp only [my_ne_nil]; rfl)), (by first | rfl | (simp; done) | (simp [*]; done) | (simp only [my_ne_nil]; rfl)), H', ⟨by have := HK1.out; omega⟩, by repeat (first | exact Drawn0.refl _ | apply Drawn0.step)⟩
                · rw [if_neg c12] at H
                  exact absurd H (by simp)
              · rw [if_neg c11] at H
                exact absurd H (by simp)
            · rw [if_neg c10] at H
              exact absurd H (by simp)
          · rw [if_neg c9] at H
            exact absurd H (by simp)
      · rw [if_neg c2] at H
        have c2b0 : decide (x4_1 < (l0.length : Int)) = false := decide_eq_false c2
        clear c2
        by_cases c13 : x3_1.size + 1 ≤ 9223372036854775807
        · rw [if_pos c13] at H
          have c13b0 := eq_true c13
          have c13b1 : decide (x3_1.size + 1 ≤ 9223372036854775807) = true := decide_eq_true c13
          try have c13b2 : (9223372036854775807 < x3_1.size + 1) = False := eq_false (Nat.not_lt.2 c13)
          obtain rfl := Option.some.inj H
          go_wp2
          repeat (go_quiet (fail); try go_wp2)
          go_ret
          exact ⟨by first | rfl | (simp; done) | (simp [*]; done) | (simp only [my_ne_nil]; rfl), by repeat (first | exact Drawn0.refl _ | apply Drawn0.step)⟩
        · rw [if_neg c13] at H
          exact absurd H (by simp)

/-! ### spec_LabelsPut: function 16 -/
def spec_LabelsPut.f (k : Nat) (l0 : List (S52)) : Option (ByteArray) := (spec_LabelsOk.f l0).bind fun t123 => (if t123 = true then ((spec_l3Put.f k l0).bind fun t124 => (some t124)) else (some (⟨#[]⟩ : ByteArray)))
theorem spec_LabelsPut.mono : ∀ a0 k, LeO (spec_LabelsPut.f k a0) (spec_LabelsPut.f (k + 1) a0) := by
  intro a0 k
  unfold spec_LabelsPut.f
  repeat' first
      | (with_reducible exact spec_l3Put.mono _ _)
      | (with_reducible exact LeO.refl _)
      | (with_reducible exact LeO.none _)
      | (with_reducible refine LeO.ite ?_ ?_)
      | (with_reducible refine LeO.bind ?_ (fun _ => ?_))
      | exact spec_l3Put.mono _ _
      | exact LeO.none _
      | refine LeO.ite ?_ ?_
      | refine LeO.bind ?_ (fun _ => ?_)
set_option maxHeartbeats 8000000 in
set_option maxRecDepth 100000 in
theorem spec_LabelsPut.calls (k : Nat) (A0 : Option Addr) (c0 : Nat) (l0 : List (S52)) (r : ByteArray) (w : World) (hr0 : Kd.C k52 w A0 l0.length l0) (hc0 : l0.length ≤ c0) (h : spec_LabelsPut.f k l0 = some r) :
    Calls Try.prog 16 #[.slice A0 l0.length c0] w fun e w' => e = .returned (.string r) ∧ Drawn0 w w' := by
  have HR0 := Aside0.mk hr0
  have HC0 := Aside0.mk hc0
  clear hr0 hc0
  have H : ((spec_LabelsOk.f l0).bind fun t123 => (if t123 = true then ((spec_l3Put.f k l0).bind fun t124 => (some t124)) else (some (⟨#[]⟩ : ByteArray)))) = some r := h
  clear h
  replace H := Option.bind_eq_some_iff.mp H
  obtain ⟨t123, A20, H⟩ := H
  replace H : (if t123 = true then ((spec_l3Put.f k l0).bind fun t124 => (some t124)) else (some (⟨#[]⟩ : ByteArray))) = some r := H
  have A2 := Aside0.mk A20
  clear A20
  by_cases c3 : t123 = true
  · subst c3
    have H1 : ((spec_l3Put.f k l0).bind fun t124 => (some t124)) = some r := by rw [if_pos rfl] at H; exact H
    clear H
    have H := H1
    clear H1
    replace H := Option.bind_eq_some_iff.mp H
    obtain ⟨t124, A40, H⟩ := H
    replace H : (some t124) = some r := H
    have A4 := Aside0.mk A40
    clear A40
    obtain rfl := Option.some.inj H
    go_enter Try.func16, Try.ntmps16
    go_wp2_with (first | ((with_reducible refine gate_callee (f := 19) rfl ?_); refine goesL_ (some 4) rfl rfl Try.func19 (by kernel_rfl) rfl #[.slice A0 l0.length c0] rfl (by (try simp only [List.map_toArray, List.map_cons, List.map_nil]); first | done | rfl | (simp only [List.length_drop, List.length_take]; rfl)) ?_; (with_reducible refine (spec_LabelsOk.calls _ _ l0 true _ ?side1 ?side2 A2.out).mono ?_); (case side1 => repeat (first | exact HR0.out | (with_reducible refine Kd.C_alloc ?_ _) | (with_reducible refine Kd.C_drewN ?_ _) | (with_reducible refine Kd.C_drew ?_))); (case side2 => exact HC0.out); rintro e w' ⟨rfl, ⟨nd, rfl⟩⟩; refine ⟨_, rfl, ?_⟩) | ((with_reducible refine gate_callee (f := 41) rfl ?_); refine goesL_ (some 7) rfl rfl Try.func41 (by kernel_rfl) rfl #[.slice A0 l0.length c0] rfl (by (try simp only [List.map_toArray, List.map_cons, List.map_nil]); first | done | rfl | (simp only [List.length_drop, List.length_take]; rfl)) ?_; (with_reducible refine (spec_l3Put.calls k _ _ l0 t124 _ ?side1 ?side2 A4.out).mono ?_); (case side1 => repeat (first | exact HR0.out | (with_reducible refine Kd.C_alloc ?_ _) | (with_reducible refine Kd.C_drewN ?_ _) | (with_reducible refine Kd.C_drew ?_))); (case side2 => exact HC0.out); rintro e w' ⟨rfl, ⟨nd, rfl⟩⟩; refine ⟨_, rfl, ?_⟩))
    go_ret
    exact ⟨by first | rfl | (simp; done) | (simp [*]; done) | (simp only [my_ne_nil]; rfl), by repeat (first | exact Drawn0.refl _ | apply Drawn0.step)⟩
  · replace c3 := Bool.eq_false_iff.mpr c3
    subst c3
    have H1 : (some (⟨#[]⟩ : ByteArray)) = some r := by rw [if_neg (show ¬ (false = true) by decide)] at H; exact H
    clear H
    have H := H1
    clear H1
    obtain rfl := Option.some.inj H
    go_enter Try.func16, Try.ntmps16
    go_wp2_with (first | ((with_reducible refine gate_callee (f := 19) rfl ?_); refine goesL_ (some 4) rfl rfl Try.func19 (by kernel_rfl) rfl #[.slice A0 l0.length c0] rfl (by (try simp only [List.map_toArray, List.map_cons, List.map_nil]); first | done | rfl | (simp only [List.length_drop, List.length_take]; rfl)) ?_; (with_reducible refine (spec_LabelsOk.calls _ _ l0 false _ ?side1 ?side2 A2.out).mono ?_); (case side1 => repeat (first | exact HR0.out | (with_reducible refine Kd.C_alloc ?_ _) | (with_reducible refine Kd.C_drewN ?_ _) | (with_reducible refine Kd.C_drew ?_))); (case side2 => exact HC0.out); rintro e w' ⟨rfl, ⟨nd, rfl⟩⟩; refine ⟨_, rfl, ?_⟩))
    go_ret
    exact ⟨by first | rfl | (simp; done) | (simp [*]; done) | (simp only [my_ne_nil]; rfl), by repeat (first | exact Drawn0.refl _ | apply Drawn0.step)⟩

/-! ### impl_isLetters: function 88 -/
def impl_isLetters.f (a0 : ByteArray) (a1 : Int) : Option Bool := if a0.size < 9223372036854775807 then some (lettersB a0 a1) else none
set_option maxHeartbeats 1000000 in
set_option maxRecDepth 100000 in
theorem impl_isLetters.calls (a0 : ByteArray) (a1 : Int) (r : Bool) (w : World) (h : impl_isLetters.f a0 a1 = some r) :
    Calls Try.prog 88 #[.string a0, .int .i64 a1] w fun e w' => e = .returned (.bool r) ∧ Drawn0 w w' := by
  unfold impl_isLetters.f at h
  split at h
  case isFalse => cases h
  case isTrue hs =>
  have hr := Aside0.mk (Option.some.inj h).symm
  clear h
  go_enter Try.func88, Try.ntmps88
  go_wp2
  go_loop [8] (fun v => ∃ k : Nat, k ≤ a0.size ∧ v = .int .i64 k ∧ Aside0 ((a0.data.toList.take k).all isL = true)) (fun v => a0.size - (intOf v).toNat)
  case atStart => exact ⟨0, Nat.zero_le _, rfl, ⟨rfl⟩⟩
  case round =>
    obtain ⟨k, hk, rfl, HA⟩ := hrel
    have e : (k : Int).toNat = k := by omega
    by_cases hlt : k < a0.size
    · have c0 : decide ((k : Int) < (a0.size : Int)) = true := decide_eq_true (by omega)
      have p : (0 ≤ (k : Int)) = True := eq_true (by omega)
      have q : ((k : Int) < (a0.size : Int)) = True := eq_true (by omega)
      have hx : ∀ h : k < a0.size, ((a0[k]'h).toNat : Int) = bt a0 (k : Int) := fun h => (letters_bt a0 k h).symm
      have hn := fun hb => letters_no a0 k hlt hb a1
      have hy := fun hb => letters_step a0 k hlt HA.out hb
      have Hn := Aside0.mk hn
      have Hy := Aside0.mk hy
      clear hn hy e
      by_cases c1 : bt a0 (k : Int) < 97
      · have c1b : decide (bt a0 (k : Int) < 97) = true := decide_eq_true c1
        have C1 := Aside0.mk c1
        clear c1
        go_wp2
        go_ret
        exact ⟨by rw [hr.out, Hn.out (by have := C1.out; omega)]; rfl, Drawn0.refl _⟩
      · have c1b : decide (bt a0 (k : Int) < 97) = false := decide_eq_false c1
        have C1 := Aside0.mk c1
        clear c1
        by_cases c2 : 122 < bt a0 (k : Int)
        · have c2b : decide (122 < bt a0 (k : Int)) = true := decide_eq_true c2
          have C2 := Aside0.mk c2
          clear c2
          go_wp2
          go_ret
          exact ⟨by rw [hr.out, Hn.out (by have := C2.out; omega)]; rfl, Drawn0.refl _⟩
        · have c2b : decide (122 < bt a0 (k : Int)) = false := decide_eq_false c2
          have C2 := Aside0.mk c2
          clear c2
          go_wp2
          go_round
          case rel => exact ⟨k + 1, by omega, by go_num, ⟨Hy.out (by have := C1.out; have := C2.out; omega)⟩⟩
          case measure => simp [intOf]; omega
    · have c0 : decide ((k : Int) < (a0.size : Int)) = false := decide_eq_false (by omega)
      have hk' : k = a0.size := by omega
      have HE := Aside0.mk (letters_end a0 (by rw [← hk']; exact HA.out) a1)
      clear hk' e
      go_wp2
      go_ret
      exact ⟨by rw [hr.out, HE.out]; rfl, Drawn0.refl _⟩

/-! ### impl_isName: function 63 -/
def impl_isName.f (a0 : ByteArray) : Option Bool := if a0.size < 9223372036854775807 then some (lettersB a0 6 && (a0.toList != [])) else none
set_option maxHeartbeats 1000000 in
set_option maxRecDepth 100000 in
theorem impl_isName.calls (a0 : ByteArray) (r : Bool) (w : World) (h : impl_isName.f a0 = some r) :
    Calls Try.prog 63 #[.string a0] w fun e w' => e = .returned (.bool r) ∧ Drawn0 w w' := by
  unfold impl_isName.f at h
  split at h
  case isFalse => cases h
  case isTrue hs =>
  have hr := Aside0.mk (Option.some.inj h).symm
  clear h
  have hc : ∀ w, Calls Try.prog 88 #[.string a0, .int .i64 6] w fun e w' => e = .returned (.bool (lettersB a0 6)) ∧ Drawn0 w w' := fun w => impl_isLetters.calls a0 6 _ w (by unfold impl_isLetters.f; rw [if_pos hs])
  have HC := Aside0.mk hc
  clear hc
  by_cases c : a0.toList = ([] : List UInt8)
  · have ca : (a0.toList != ([] : List UInt8)) = false := bne_eq_false_iff_eq.mpr c
    have cb : (a0.toList == ([] : List UInt8)) = true := beq_iff_eq.mpr c
    have C := Aside0.mk ca
    clear c
    go_enter Try.func63, Try.ntmps63
    go_wp2_with (go_at_call 88; refine (HC.out _).mono ?_; rintro e w' ⟨rfl, ⟨nd, rfl⟩⟩)
    go_ret
    exact ⟨by rw [hr.out, C.out, Bool.and_false]; rfl, Drawn0.refl _⟩
  · have ca : (a0.toList != ([] : List UInt8)) = true := bne_iff_ne.mpr c
    have cb : (a0.toList == ([] : List UInt8)) = false := beq_eq_false_iff_ne.mpr c
    have C := Aside0.mk ca
    clear c
    go_enter Try.func63, Try.ntmps63
    go_wp2_with (go_at_call 88; refine (HC.out _).mono ?_; rintro e w' ⟨rfl, ⟨nd, rfl⟩⟩)
    go_ret
    exact ⟨by rw [hr.out, C.out, Bool.and_true]; rfl, ⟨⟨_, rfl⟩⟩⟩

/-! ### impl_isWord: function 64 -/
def impl_isWord.f (a0 : ByteArray) : Option Bool := if a0.size < 9223372036854775807 then some (lettersB a0 8) else none
set_option maxHeartbeats 1000000 in
set_option maxRecDepth 100000 in
theorem impl_isWord.calls (a0 : ByteArray) (r : Bool) (w : World) (h : impl_isWord.f a0 = some r) :
    Calls Try.prog 64 #[.string a0] w fun e w' => e = .returned (.bool r) ∧ Drawn0 w w' := by
  unfold impl_isWord.f at h
  split at h
  case isFalse => cases h
  case isTrue hs =>
  have hr := Aside0.mk (Option.some.inj h).symm
  clear h
  have hc : ∀ w, Calls Try.prog 88 #[.string a0, .int .i64 8] w fun e w' => e = .returned (.bool (lettersB a0 8)) ∧ Drawn0 w w' := fun w => impl_isLetters.calls a0 8 _ w (by unfold impl_isLetters.f; rw [if_pos hs])
  have HC := Aside0.mk hc
  clear hc
  go_enter Try.func64, Try.ntmps64
  go_wp2_with (go_at_call 88; refine (HC.out _).mono ?_; rintro e w' ⟨rfl, ⟨nd, rfl⟩⟩)
  go_ret
  exact ⟨by rw [hr.out]; rfl, ⟨⟨_, rfl⟩⟩⟩

/-! ### impl_LabelsOk: function 38 -/
def impl_LabelsOk.f (l0 : List Lbl) : Option Bool := if bdL l0 = true then some (labelsB l0) else none
set_option maxHeartbeats 4000000 in
set_option maxRecDepth 100000 in
theorem impl_LabelsOk.calls (A0 : Option Addr) (c0 : Nat) (l0 : List Lbl) (r : Bool) (w : World) (hr0 : Kd.C k52 w A0 l0.length l0) (hc0 : l0.length ≤ c0) (h : impl_LabelsOk.f l0 = some r) :
    Calls Try.prog 38 #[.slice A0 l0.length c0] w fun e w' => e = .returned (.bool r) ∧ Below w.heap.size w w' := by
  unfold impl_LabelsOk.f at h
  split at h
  case isFalse => cases h
  case isTrue hs =>
  have hr := Aside0.mk (Option.some.inj h).symm
  clear h
  have hu := Try.underlying52
  have HR0 := Aside0.mk hr0
  have HC0 := Aside0.mk hc0
  have HS := Aside0.mk hs
  have hN := bdL_len hs
  clear hr0 hc0 hs
  go_enter Try.func38, Try.ntmps38
  go_wp2
  go_loopw [7] (fun v wr => ∃ k : Nat, k ≤ l0.length ∧ v = .int .i64 k ∧ Aside0 (r = (chainP lblR lblLt (prevG l0 z52 k) (l0.drop k) && decide (1 ≤ l0.length ∧ l0.length ≤ 4))) ∧ Aside0 (Below w.heap.size w wr)) (fun v _ => l0.length - (intOf v).toNat)
  case atStart => exact ⟨0, Nat.zero_le _, rfl, ⟨hr.out⟩, ⟨Below.refl _ _⟩⟩
  case round =>
    obtain ⟨k, hk, rfl, HA, HD⟩ := hrel
    by_cases hlt : k < l0.length
    · have c0b : decide ((k : Int) < (l0.length : Int)) = true := decide_eq_true (by omega)
      obtain ⟨ad, e, hx0, hx1⟩ := at_T52 HR0.out (k : Int) (by omega) (by omega)
      cases e
      have e1 : (k : Int).toNat = k := by omega
      have e2 : rd_T52 l0 (k : Int) = l0.getD k z52 := by unfold rd_T52; rw [e1]
      rw [e1, e2] at hx0 hx1
      replace hx0 := (HD.out.cell (World.block_lt_of_cell? w _ hx0)).trans hx0
      replace hx1 := (HD.out.cell (World.block_lt_of_cell? w _ hx1)).trans hx1
      have hmem : l0.getD k z52 ∈ l0 := by rw [getD_at hlt]; exact List.getElem_mem _
      have hb := bdL_at HS.out hmem
      have N1 := Aside0.mk (chainP_no1 lblR lblLt l0 z52 k hlt)
      have N2 := Aside0.mk (chainP_no2 lblR lblLt l0 z52 k hlt)
      have N3 := Aside0.mk (fun h0 : k = 0 => chainP_on0 lblR lblLt l0 z52 (by omega))
      have N4 := Aside0.mk (chainP_on lblR lblLt l0 z52 k hlt)
      clear e1 e2 hmem
      obtain ⟨x, hx⟩ : ∃ x, l0.getD k z52 = x := ⟨_, rfl⟩
      rw [hx] at hx0 hx1 hb N1 N2 N4
      have hR : lblR x = ((lettersB x.f0 6 && (x.f0.toList != [])) && lettersB x.f1 8 && (x.f1.toList != [])) := rfl
      have HX := Aside0.mk hx
      obtain ⟨nm, hnm⟩ : ∃ s, x.f0 = s := ⟨_, rfl⟩
      obtain ⟨wd, hwd⟩ : ∃ s, x.f1 = s := ⟨_, rfl⟩
      have HNM := Aside0.mk hnm
      rw [hnm, hwd] at hR hb
      rw [hnm] at hx0
      rw [hwd] at hx1
      have HRr := Aside0.mk hR
      clear hx hnm hwd hR
      have p : (0 ≤ (k : Int)) = True := eq_true (by omega)
      have q : ((k : Int) < (l0.length : Int)) = True := eq_true (by omega)
      have c1 : ∀ (b : Bool), (lettersB nm 6 && (nm.toList != [])) = b → ∀ w, Calls Try.prog 63 #[.string nm] w fun e w' => e = .returned (.bool b) ∧ Drawn0 w w' := fun b hb' w => impl_isName.calls nm b w (by unfold impl_isName.f; rw [if_pos hb.1, hb'])
      have c2 : ∀ (b : Bool), lettersB wd 8 = b → ∀ w, Calls Try.prog 64 #[.string wd] w fun e w' => e = .returned (.bool b) ∧ Drawn0 w w' := fun b hb' w => impl_isWord.calls wd b w (by unfold impl_isWord.f; rw [if_pos hb.2, hb'])
      clear hb
      cases b1 : (lettersB nm 6 && (nm.toList != []))
      · have C1 := Aside0.mk (c1 false b1)
        have B1 := Aside0.mk b1
        clear c1 c2 b1
        go_wp2_with fail
        go_quiet ((go_at_call 63; exact quiet_D (C1.out _)))
        go_wp2
        go_ret
        exact ⟨by rw [HA.out, N1.out (by rw [HRr.out, B1.out]; rfl)]; rfl, pw_below_drewN (HD.out.alloc (by first | exact HD.out.size | exact Nat.le_refl _) _) _⟩
      have C1 := Aside0.mk (c1 true b1)
      have B1 := Aside0.mk b1
      clear c1 b1
      cases b2 : lettersB wd 8
      · have C2 := Aside0.mk (c2 false b2)
        have B2 := Aside0.mk b2
        clear c2 b2
        go_wp2_with fail
        go_quiet ((first | (go_at_call 63; exact quiet_D (C1.out _)) | (go_at_call 64; exact quiet_D (C2.out _))))
        go_wp2
        go_ret
        exact ⟨by rw [HA.out, N1.out (by rw [HRr.out, B1.out, B2.out]; rfl)]; rfl, pw_below_drewN (HD.out.alloc (by first | exact HD.out.size | exact Nat.le_refl _) _) _⟩
      have C2 := Aside0.mk (c2 true b2)
      have B2 := Aside0.mk b2
      clear c2 b2
      by_cases b3 : wd.toList = ([] : List UInt8)
      · have b3a : (wd.toList == ([] : List UInt8)) = true := beq_iff_eq.mpr b3
        have B3 := Aside0.mk b3
        clear b3
        go_wp2_with fail
        go_quiet ((first | (go_at_call 63; exact quiet_D (C1.out _)) | (go_at_call 64; exact quiet_D (C2.out _))))
        go_wp2
        go_ret
        exact ⟨by rw [HA.out, N1.out (by rw [HRr.out, B1.out, B2.out, B3.out]; rfl)]; rfl, pw_below_drewN (HD.out.alloc (by first | exact HD.out.size | exact Nat.le_refl _) _) _⟩
      have b3a : (wd.toList == ([] : List UInt8)) = false := beq_eq_false_iff_ne.mpr b3
      have BR := Aside0.mk (show lblR x = true by rw [HRr.out, B1.out, B2.out]; simpa using b3)
      clear b3
      by_cases b4 : k = 0
      · have b4a : decide (0 < (k : Int)) = false := decide_eq_false (by omega)
        have b4n : decide (0 < k) = false := decide_eq_false (by omega)
        have B4 := Aside0.mk b4
        clear b4
        go_wp2_with fail
        go_quiet ((first | (go_at_call 63; exact quiet_D (C1.out _)) | (go_at_call 64; exact quiet_D (C2.out _))))
        go_wp2
        go_roundw
        case rel => exact ⟨k + 1, by omega, by go_num, ⟨by have e := N3.out B4.out (by rw [← B4.out, HX.out]; exact BR.out); rw [HA.out]; rw [B4.out]; rw [e]⟩, ⟨pw_below_drewN (HD.out.alloc (by first | exact HD.out.size | exact Nat.le_refl _) _) _⟩⟩
        case measure => simp [intOf]; omega
      obtain ⟨j, hj⟩ : ∃ j : Nat, k = j + 1 := ⟨k - 1, by omega⟩
      have b4a : decide (0 < (k : Int)) = true := decide_eq_true (by omega)
      have b4n : decide (0 < k) = true := decide_eq_true (by omega)
      have jw : IntKind.i64.wrap ((k : Int) - 1) = (j : Int) := by rw [IntWalk.i64_in _ (by omega)]; omega
      have p2 : (0 ≤ (j : Int)) = True := eq_true (by omega)
      have q2 : ((j : Int) < (l0.length : Int)) = True := eq_true (by omega)
      obtain ⟨ad2, e, hy0, hy1⟩ := at_T52 HR0.out (j : Int) (by omega) (by omega)
      obtain rfl : ad = ad2 := by injection e
      have e1 : (j : Int).toNat = j := by omega
      have e2 : rd_T52 l0 (j : Int) = l0.getD (k - 1) z52 := by unfold rd_T52; rw [e1, hj]; rfl
      rw [e1, e2] at hy0
      replace hy0 := (HD.out.cell (World.block_lt_of_cell? w _ hy0)).trans hy0
      clear e e1 e2 hy1 b4
      obtain ⟨y, hy⟩ : ∃ y, l0.getD (k - 1) z52 = y := ⟨_, rfl⟩
      rw [hy] at hy0 N2 N4
      have HY := Aside0.mk hy
      obtain ⟨pn, hpn⟩ : ∃ s, y.f0 = s := ⟨_, rfl⟩
      have HPN := Aside0.mk hpn
      rw [hpn] at hy0
      have hya : ∀ o, (wr.alloc o).cell? (ad.add (j * 2)) = some (.string pn) := fun o => (Below.cell ((Below.refl _ wr).alloc (Nat.le_refl _) o) (World.block_lt_of_cell? wr _ hy0)).trans hy0
      have HJ := Aside0.mk hj
      clear hy hpn hj
      have hl : lblLt y x = Op.bytesLess pn.toList nm.toList := by unfold lblLt; rw [HPN.out, HNM.out]
      have HL := Aside0.mk hl
      clear hl
      cases b5 : Op.bytesLess pn.toList nm.toList
      · have B5 := Aside0.mk b5
        go_wp2_with fail
        go_quiet ((first | (go_at_call 63; exact quiet_D (C1.out _)) | (go_at_call 64; exact quiet_D (C2.out _))))
        go_wp2
        go_ret
        exact ⟨by rw [HA.out, N2.out (by have := HJ.out; omega) (HL.out.trans B5.out)]; rfl, pw_below_drewN (HD.out.alloc (by first | exact HD.out.size | exact Nat.le_refl _) _) _⟩
      · have B5 := Aside0.mk b5
        go_wp2_with fail
        go_quiet ((first | (go_at_call 63; exact quiet_D (C1.out _)) | (go_at_call 64; exact quiet_D (C2.out _))))
        go_wp2
        go_roundw
        case rel => exact ⟨k + 1, by omega, by go_num, ⟨by rw [HA.out, N4.out (by have := HJ.out; omega) BR.out (HL.out.trans B5.out)]⟩, ⟨pw_below_drewN (HD.out.alloc (by first | exact HD.out.size | exact Nat.le_refl _) _) _⟩⟩
        case measure => simp [intOf]; omega
    · have c0b : decide ((k : Int) < (l0.length : Int)) = false := decide_eq_false (by omega)
      have HE := Aside0.mk (chainP_end lblR lblLt l0 (prevG l0 z52 k) k (by omega))
      by_cases c1 : 1 ≤ l0.length
      · have c1a : decide (1 ≤ (l0.length : Int)) = true := decide_eq_true (by omega)
        by_cases c2 : l0.length ≤ 4
        · have c2a : decide ((l0.length : Int) ≤ 4) = true := decide_eq_true (by omega)
          have C := Aside0.mk (decide_eq_true (show 1 ≤ l0.length ∧ l0.length ≤ 4 from ⟨c1, c2⟩))
          clear c1 c2
          go_wp2
          repeat (go_quiet (fail); try go_wp2)
          go_ret
          exact ⟨by rw [HA.out, HE.out, C.out]; rfl, HD.out⟩
        · have c2a : decide ((l0.length : Int) ≤ 4) = false := decide_eq_false (by omega)
          have C := Aside0.mk (decide_eq_false (show ¬ (1 ≤ l0.length ∧ l0.length ≤ 4) from fun h => c2 h.2))
          clear c1 c2
          go_wp2
          repeat (go_quiet (fail); try go_wp2)
          go_ret
          exact ⟨by rw [HA.out, HE.out, C.out]; rfl, HD.out⟩
      · have c1a : decide (1 ≤ (l0.length : Int)) = false := decide_eq_false (by omega)
        have C := Aside0.mk (decide_eq_false (show ¬ (1 ≤ l0.length ∧ l0.length ≤ 4) from fun h => c1 h.1))
        clear c1
        go_wp2
        repeat (go_quiet (fail); try go_wp2)
        go_ret
        exact ⟨by rw [HA.out, HE.out, C.out]; rfl, HD.out⟩

/-! ### strings_Join: function 42 -/
def laid_lays156_ren : Go.Shelf.Ren := ⟨fun | 156 => 42 | 165 => 67 | 166 => 68 | 169 => 69 | 240 => 91 | 241 => 92 | 276 => 99 | 277 => 100 | n => n, fun | 31 => 65 | 9 => 9 | 3 => 3 | 4 => 4 | 0 => 0 | 20 => 20 | 72 => 94 | 76 => 98 | 70 => 92 | 37 => 31 | 75 => 97 | 127 => 122 | 164 => 133 | 5 => 5 | 80 => 100 | n => n, fun | n => n⟩
theorem laid_lays156 : Go.Proofs.Lays.n156 Try.prog laid_lays156_ren := {
  mixed := by kernel_rfl
  f156 := Try.func42.trans (congrArg some (by kernel_rfl))
  f165 := Try.func67.trans (congrArg some (by kernel_rfl))
  f166 := Try.func68.trans (congrArg some (by kernel_rfl))
  f169 := Try.func69.trans (congrArg some (by kernel_rfl))
  f240 := Try.func91.trans (congrArg some (by kernel_rfl))
  f241 := Try.func92.trans (congrArg some (by kernel_rfl))
  f276 := Try.func99.trans (congrArg some (by kernel_rfl))
  f277 := Try.func100.trans (congrArg some (by kernel_rfl))
  t0 := Try.underlying0
  a0 := Try.isAgg0
  z0 := Try.sizeOf0
  v0 := Try.zeroValue0
  t3 := Try.underlying3
  a3 := Try.isAgg3
  z3 := Try.sizeOf3
  v3 := Try.zeroValue3
  t4 := Try.underlying4
  a4 := Try.isAgg4
  z4 := Try.sizeOf4
  v4 := Try.zeroValue4
  t9 := Try.underlying9
  a9 := Try.isAgg9
  z9 := Try.sizeOf9
  v9 := Try.zeroValue9
  t20 := Try.underlying20
  a20 := Try.isAgg20
  z20 := Try.sizeOf20
  v20 := Try.zeroValue20
  t31 := Try.underlying65
  a31 := Try.isAgg65
  z31 := Try.sizeOf65
  v31 := Try.zeroValue65
  t37 := Try.underlying31
  a37 := Try.isAgg31
  z37 := Try.sizeOf31
  v37 := Try.zeroValue31
  t70 := Try.underlying92
  a70 := Try.isAgg92
  z70 := Try.sizeOf92
  v70 := Try.zeroValue92
  t72 := Try.underlying94
  a72 := Try.isAgg94
  z72 := Try.sizeOf94
  v72 := Try.zeroValue94
  t75 := Try.underlying97
  a75 := Try.isAgg97
  z75 := Try.sizeOf97
  v75 := Try.zeroValue97
  t76 := Try.underlying98
  a76 := Try.isAgg98
  z76 := Try.sizeOf98
  v76 := Try.zeroValue98
  t127 := Try.underlying122
  a127 := Try.isAgg122
  z127 := Try.sizeOf122
  v127 := Try.zeroValue122
  t164 := Try.underlying133
  a164 := Try.isAgg133
  z164 := Try.sizeOf133
  v164 := Try.zeroValue133 }
theorem laid_Builder_Extra_156 : Builder.Extra Try.prog laid_lays156_ren := {
  sizeBuilder := by kernel_rfl
  liesBuilder := by kernel_rfl
  t5 := Try.underlying5
  a5 := Try.isAgg5
  z5 := Try.sizeOf5
  v5 := Try.zeroValue5
  infoByte := by kernel_rfl
  cellsByte := by kernel_rfl
  sizeByte := by kernel_rfl
  neB5 := by decide }
theorem laid_strings_Join_none (a : Option Addr) (c : Nat) (sep : ByteArray) (w : World) :
    Calls Try.prog 42 #[.slice a 0 c, .string sep] w fun e w' => e = .returned (.string ⟨#[]⟩) ∧ w' = w := Any.strings_Join_none laid_lays156 laid_Builder_Extra_156 a c sep w
theorem laid_strings_Join (bk o c : Nat) (xs : List ByteArray) (sep : ByteArray) (w : World) (hcells : ∀ (j : Nat) x, xs[j]? = some x → w.cell? ⟨bk, o + j, none⟩ = some (.string x)) (hbk : bk < w.heap.size) (hN : xs.length ≤ 140737488355328) (hcap : xs.length ≤ c) (hlen : (Lib.join (xs.map (·.data.toList)) sep.data.toList).length ≤ 140737488355328) :
    Calls Try.prog 42 #[.slice (some ⟨bk, o, none⟩) xs.length c, .string sep] w fun e w' => e = .returned (.string ⟨(Lib.join (xs.map (·.data.toList)) sep.data.toList).toArray⟩) ∧ Below w.heap.size w w' := Any.strings_Join laid_lays156 laid_Builder_Extra_156 bk o c xs sep w hcells hbk hN hcap hlen
def joinV (l : List ByteArray) (sep : ByteArray) : ByteArray := ⟨(Go.Lib.join (l.map (·.data.toList)) sep.data.toList).toArray⟩
def strings_Join.f (l0 : List ByteArray) (a1 : ByteArray) : Option ByteArray := if l0.length ≤ 1048576 ∧ (Go.Lib.join (l0.map (·.data.toList)) a1.data.toList).length ≤ 140737488355328 then some (joinV l0 a1) else none
theorem spot_none {w : World} {a : Addr} {v : Value} (h : w.cell? a = some v) : a.spot = none := by
  unfold World.cell? at h
  split at h
  · split at h
    · cases h
    · rename_i hs
      simpa using hs
  · cases h
theorem strings_Join.calls (A0 : Option Addr) (c0 : Nat) (l0 : List ByteArray) (a1 : ByteArray) (r : ByteArray) (w : World) (hr0 : Kd.C Kd.string w A0 l0.length l0) (hc0 : l0.length ≤ c0) (h : strings_Join.f l0 a1 = some r) :
    Calls Try.prog 42 #[.slice A0 l0.length c0, .string a1] w fun e w' => e = .returned (.string r) ∧ Below w.heap.size w w' := by
  unfold strings_Join.f at h
  split at h
  case isFalse => cases h
  case isTrue hs =>
  have hr := Option.some.inj h
  by_cases h0 : l0.length = 0
  · have e : l0 = [] := List.eq_nil_of_length_eq_zero h0
    subst e
    refine (laid_strings_Join_none A0 c0 a1 w).mono ?_
    rintro e w' ⟨rfl, rfl⟩
    exact ⟨by rw [← hr]; rfl, Below.refl _ _⟩
  · obtain ⟨ad, rfl, hcell⟩ := hr0.2.2 (by omega)
    have hc : ∀ j x, l0[j]? = some x → w.cell? (ad.add j) = some (.string x) := fun j x hx => by
      obtain ⟨c, _, hR, hcc⟩ := hcell j x hx
      have hR' : c = [.string x] := hR
      subst hR'
      have h_ := hcc 0 _ rfl
      have e_ : j * Kd.string.sz + 0 = j := Nat.mul_one j
      rwa [e_] at h_
    have h00 := hc 0 _ (List.getElem?_eq_getElem (show 0 < l0.length by omega))
    have hsp : ad.spot = none := spot_none (a := ad.add 0) h00
    have hbk : ad.block < w.heap.size := World.block_lt_of_cell? w _ h00
    obtain ⟨bk, o, sp⟩ := ad
    simp only at hsp
    subst hsp
    refine (laid_strings_Join bk o c0 l0 a1 w (fun j x hx => by have h_ := hc j x hx; unfold Addr.add at h_; split at h_; (rename_i e_; subst e_; exact h_); exact h_) hbk (by omega) hc0 hs.2).mono ?_
    rintro e w' ⟨rfl, hb⟩
    exact ⟨by rw [← hr]; rfl, hb⟩

end Go.Proofs.Ytipbllegjcedgaa.QFnExactLabelsPut
