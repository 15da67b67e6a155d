-- Written by wip/tools/mk.py (this session's program, which runs the kit's print): functions, and proofs that the machine's calls do what they say.
import Derived.Test.YtfipeogppcllnaaQFnExactBlockOkx0
import Derived.Test.YtfipeogppcllnaaQFnExactBlockOkx1
namespace Go.Proofs.Ytfipeogppcllnaa.QFnExactBlockOk
open Go.RowKit Go.Proofs.YtfipeogppcllnaaW.PrintWords Go.Proofs.YtfipeogppcllnaaW.PrintLast Go.Proofs.YtfipeogppcllnaaW.PrintMore
attribute [local go_sem] IntKind.wrap_u8 max2_int min2_int max_two min_two max_three min_three max_four min_four   -- for this text's walks alone
set_option linter.unusedVariables false
set_option linter.unusedSimpArgs false

/-! ### spec_l3Cmp: function 66 -/
def spec_l3Cmp.f (l0 l1 : List Lbl) : Option Int := if l0.length < 9223372036854775807 ∧ l1.length < 9223372036854775807 then some (cmpL l0 l1) else none
set_option maxHeartbeats 4000000 in
set_option maxRecDepth 100000 in
theorem spec_l3Cmp.calls (A0 : Option Addr) (c0 : Nat) (l0 : List Lbl) (A1 : Option Addr) (c1 : Nat) (l1 : List Lbl) (r : Int) (w : World) (hr0 : Kd.C k119 w A0 l0.length l0) (hc0 : l0.length ≤ c0) (hr1 : Kd.C k119 w A1 l1.length l1) (hc1 : l1.length ≤ c1) (h : spec_l3Cmp.f l0 l1 = some r) :
    Calls Try.prog 66 #[.slice A0 l0.length c0, .slice A1 l1.length c1] w fun e w' => e = .returned (.int .i64 r) ∧ Drawn0 w w' := by
  unfold spec_l3Cmp.f at h
  split at h
  case isFalse => cases h
  case isTrue hs =>
  have HR := Aside0.mk (Option.some.inj h).symm
  have hN0 := hs.1
  have hN1 := hs.2
  have HR0 := Aside0.mk hr0
  have HR1 := Aside0.mk hr1
  have hu := Try.underlying119
  clear h hs hr0 hr1 hc0 hc1
  go_enter Try.func66, Try.ntmps66
  go_wp2
  go_loopw [5] (fun v wr => ∃ k : Nat, k ≤ l0.length ∧ k ≤ l1.length ∧ v = .int .i64 k ∧ Aside0 (r = cmpL (l0.drop k) (l1.drop k)) ∧ Aside0 (Drawn0 w wr)) (fun v _ => l0.length - (intOf v).toNat)
  case atStart => exact ⟨0, Nat.zero_le _, Nat.zero_le _, rfl, ⟨by rw [List.drop_zero, List.drop_zero]; exact HR.out⟩, ⟨Drawn0.refl _⟩⟩
  case round =>
    clear HR
    obtain ⟨k, hk, hk1, rfl, HA, HD⟩ := hrel
    by_cases hlt : k < l0.length
    · have c0b : decide ((k : Int) < (l0.length : Int)) = true := decide_eq_true (by omega)
      by_cases hlt1 : k < l1.length
      · have c1b : decide ((k : Int) < (l1.length : Int)) = true := decide_eq_true (by omega)
        obtain ⟨ad, e, hx0, hx1⟩ := at_T119 HR0.out (k : Int) (by omega) (by omega)
        cases e
        obtain ⟨ad2, e, hy0, hy1⟩ := at_T119 HR1.out (k : Int) (by omega) (by omega)
        cases e
        have e1 : (k : Int).toNat = k := by omega
        have e2 : ∀ l, rd_T119 l (k : Int) = l.getD k z119 := fun l => by unfold rd_T119; rw [e1]
        rw [e1, e2] at hx0 hx1 hy0 hy1
        replace hx0 := ((Drawn0.below HD.out).cell (World.block_lt_of_cell? w _ hx0)).trans hx0
        replace hx1 := ((Drawn0.below HD.out).cell (World.block_lt_of_cell? w _ hx1)).trans hx1
        replace hy0 := ((Drawn0.below HD.out).cell (World.block_lt_of_cell? w _ hy0)).trans hy0
        replace hy1 := ((Drawn0.below HD.out).cell (World.block_lt_of_cell? w _ hy1)).trans hy1
        have p : (0 ≤ (k : Int)) = True := eq_true (by omega)
        have q : ((k : Int) < (l0.length : Int)) = True := eq_true (by omega)
        have q2 : ((k : Int) < (l1.length : Int)) = True := eq_true (by omega)
        have E := Aside0.mk (cmpL_step l0 l1 z119 k hlt hlt1)
        obtain ⟨x, hx⟩ : ∃ x, l0.getD k z119 = x := ⟨_, rfl⟩
        obtain ⟨y, hy⟩ : ∃ x, l1.getD k z119 = x := ⟨_, rfl⟩
        rw [hx] at hx0 hx1 E
        rw [hy] at hy0 hy1 E
        clear hx hy e1 e2
        obtain ⟨xa, xb⟩ := x
        obtain ⟨ya, yb⟩ := y
        have C1 := Aside0.mk (fun w => spec_l3Texts.calls xa ya _ w rfl)
        have C2 := Aside0.mk (fun w => spec_l3Texts.calls xb yb _ w rfl)
        have E2 := Aside0.mk (show cmp1 ⟨xa, xb⟩ ⟨ya, yb⟩ = if cmpT xa ya = 0 then cmpT xb yb else cmpT xa ya from rfl)
        obtain ⟨a, ha⟩ : ∃ a, cmpT xa ya = a := ⟨_, rfl⟩
        obtain ⟨b, hb⟩ : ∃ a, cmpT xb yb = a := ⟨_, rfl⟩
        rw [ha] at C1 E2
        rw [hb] at C2 E2
        clear ha hb
        by_cases h0 : a = 0
        · have a1 : (a == 0) = true := beq_iff_eq.mpr h0
          have a2 : (a != 0) = false := bne_eq_false_iff_eq.mpr h0
          have H0 := Aside0.mk h0
          clear h0
          by_cases g0 : b = 0
          · have b1 : (b != 0) = false := bne_eq_false_iff_eq.mpr g0
            have b2 : (b == 0) = true := beq_iff_eq.mpr g0
            have G0 := Aside0.mk g0
            clear g0
            go_wp2_with fail
            go_quiet ((go_at_call 82; exact quiet_D (C1.out _)))
            obtain ⟨W1, hW1⟩ : ∃ W1, wr.drewN nq = W1 := ⟨_, rfl⟩
            have HD1 := Aside0.mk (show Drawn0 w W1 by obtain ⟨m, hm⟩ := HD.out; exact ⟨⟨_, by rw [← hW1, hm, World.drewN_drewN]⟩⟩)
            have hx1W : W1.cell? ⟨(ad.add (k * 2)).block, (ad.add (k * 2)).off + 1, none⟩ = some (.string xb) := by rw [← hW1]; exact hx1
            have hy1W : W1.cell? ⟨(ad2.add (k * 2)).block, (ad2.add (k * 2)).off + 1, none⟩ = some (.string yb) := by rw [← hW1]; exact hy1
            rw [hW1]
            clear hW1
            go_wp2_with fail
            go_quiet ((go_at_call 82; exact quiet_D (C2.out _)))
            go_wp2
            go_roundw
            case rel => exact ⟨k + 1, by omega, by omega, by go_num, ⟨by rw [HA.out, E.out, E2.out, if_pos H0.out, if_pos G0.out]⟩, ⟨by obtain ⟨m, hm⟩ := HD1.out; exact ⟨⟨_, by rw [hm, World.drewN_drewN]⟩⟩⟩⟩
            case measure => simp [intOf]; omega
          · have b1 : (b != 0) = true := bne_iff_ne.mpr g0
            have b2 : (b == 0) = false := beq_eq_false_iff_ne.mpr g0
            have G0 := Aside0.mk g0
            clear g0
            go_wp2_with fail
            go_quiet ((go_at_call 82; exact quiet_D (C1.out _)))
            obtain ⟨W1, hW1⟩ : ∃ W1, wr.drewN nq = W1 := ⟨_, rfl⟩
            have HD1 := Aside0.mk (show Drawn0 w W1 by obtain ⟨m, hm⟩ := HD.out; exact ⟨⟨_, by rw [← hW1, hm, World.drewN_drewN]⟩⟩)
            have hx1W : W1.cell? ⟨(ad.add (k * 2)).block, (ad.add (k * 2)).off + 1, none⟩ = some (.string xb) := by rw [← hW1]; exact hx1
            have hy1W : W1.cell? ⟨(ad2.add (k * 2)).block, (ad2.add (k * 2)).off + 1, none⟩ = some (.string yb) := by rw [← hW1]; exact hy1
            rw [hW1]
            clear hW1
            go_wp2_with fail
            go_quiet ((go_at_call 82; exact quiet_D (C2.out _)))
            go_wp2
            go_ret
            exact ⟨by rw [HA.out, E.out, E2.out, if_pos H0.out, if_neg G0.out]; rfl, by obtain ⟨m, hm⟩ := HD1.out; exact ⟨⟨_, by rw [hm, World.drewN_drewN]⟩⟩⟩
        · have a1 : (a == 0) = false := beq_eq_false_iff_ne.mpr h0
          have a2 : (a != 0) = true := bne_iff_ne.mpr h0
          have H0 := Aside0.mk h0
          clear h0
          go_wp2_with fail
          go_quiet ((go_at_call 82; exact quiet_D (C1.out _)))
          go_wp2
          go_ret
          exact ⟨by rw [HA.out, E.out, E2.out, if_neg H0.out, if_neg H0.out]; rfl, by obtain ⟨m, hm⟩ := HD.out; exact ⟨⟨_, by rw [hm, World.drewN_drewN]⟩⟩⟩
      · have c1b : decide ((k : Int) < (l1.length : Int)) = false := decide_eq_false (by omega)
        have E := Aside0.mk (cmpL_more l0 l1 k hlt hlt1)
        have d1 : decide ((l0.length : Int) < (l1.length : Int)) = false := decide_eq_false (by omega)
        have d1n : decide (l0.length < l1.length) = false := decide_eq_false (by omega)
        have d2 : decide ((l1.length : Int) < (l0.length : Int)) = true := decide_eq_true (by omega)
        have d2n : decide (l1.length < l0.length) = true := decide_eq_true (by omega)
        go_wp2
        go_ret
        exact ⟨by rw [HA.out, E.out]; rfl, HD.out⟩
    · have c0b : decide ((k : Int) < (l0.length : Int)) = false := decide_eq_false (by omega)
      have E := Aside0.mk (cmpL_none l0 l1 k hlt)
      by_cases hlt1 : k < l1.length
      · have d1 : decide ((l0.length : Int) < (l1.length : Int)) = true := decide_eq_true (by omega)
        have d1n : decide (l0.length < l1.length) = true := decide_eq_true (by omega)
        have F := Aside0.mk (decide_eq_true hlt1)
        go_wp2
        go_ret
        exact ⟨by rw [HA.out, E.out, if_pos F.out]; rfl, HD.out⟩
      · have d1 : decide ((l0.length : Int) < (l1.length : Int)) = false := decide_eq_false (by omega)
        have d1n : decide (l0.length < l1.length) = false := decide_eq_false (by omega)
        have d2 : decide ((l1.length : Int) < (l0.length : Int)) = false := decide_eq_false (by omega)
        have d2n : decide (l1.length < l0.length) = false := decide_eq_false (by omega)
        have F := Aside0.mk (decide_eq_false hlt1)
        go_wp2
        go_ret
        exact ⟨by rw [HA.out, E.out, F.out]; rfl, HD.out⟩

/-! ### spec_RowsOk: function 38 -/
def spec_RowsOk.f (l0 : List Rw) : Option Bool := if bdW l0 = true then some (rowsB l0) else none
theorem drawn_drewN {w wr : World} (h : Drawn0 w wr) (n : Nat) : Drawn0 w (wr.drewN n) := by
  obtain ⟨m, hm⟩ := h
  exact ⟨⟨_, by rw [hm, World.drewN_drewN]⟩⟩
set_option maxHeartbeats 8000000 in
set_option maxRecDepth 100000 in
theorem spec_RowsOk.calls (A0 : Option Addr) (c0 : Nat) (l0 : List Rw) (r : Bool) (w : World) (hr0 : Kd.C k107 w A0 l0.length l0) (hc0 : l0.length ≤ c0) (h : spec_RowsOk.f l0 = some r) :
    Calls Try.prog 38 #[.slice A0 l0.length c0] w fun e w' => e = .returned (.bool r) ∧ Drawn0 w w' := by
  unfold spec_RowsOk.f at h
  split at h
  case isFalse => cases h
  case isTrue hs =>
  have hr := Aside0.mk (Option.some.inj h).symm
  clear h
  have hu := Try.underlying107
  have HR0 := Aside0.mk hr0
  have HS := Aside0.mk hs
  have hN := bdW_len hs
  clear hr0 hc0 hs
  go_enter Try.func38, Try.ntmps38
  go_wp2
  go_loopw [3] (fun v wr => ∃ k : Nat, k ≤ l0.length ∧ v = .int .i64 k ∧ Aside0 (r = (chainP rowR rowLt (prevG l0 z107 k) (l0.drop k) && decide ((l0.length : Int) ≤ 10))) ∧ Aside0 (Drawn0 w wr)) (fun v _ => l0.length - (intOf v).toNat)
  case atStart => exact ⟨0, Nat.zero_le _, rfl, ⟨hr.out⟩, ⟨Drawn0.refl _⟩⟩
  case round =>
    obtain ⟨k, hk, rfl, HA, HD⟩ := hrel
    by_cases hlt : k < l0.length
    · have c0b : decide ((k : Int) < (l0.length : Int)) = true := decide_eq_true (by omega)
      obtain ⟨ad, B0, d0, B1, d1, e, hx0, hx1, hd0, hK0, hd1, hK1⟩ := at_T107 HR0.out (k : Int) (by omega) (by omega)
      cases e
      have e1 : (k : Int).toNat = k := by omega
      have e2 : rd_T107 l0 (k : Int) = l0.getD k z107 := by unfold rd_T107; rw [e1]
      rw [e1, e2] at hx0 hx1
      rw [e2] at hd0 hK0 hd1 hK1
      replace hx0 := ((Drawn0.below HD.out).cell (World.block_lt_of_cell? w _ hx0)).trans hx0
      replace hx1 := ((Drawn0.below HD.out).cell (World.block_lt_of_cell? w _ hx1)).trans hx1
      have hmem : l0.getD k z107 ∈ l0 := by rw [getD_at hlt]; exact List.getElem_mem _
      obtain ⟨hbL, hbS⟩ := bdW_at HS.out hmem
      have N1 := Aside0.mk (chainP_no1 rowR rowLt l0 z107 k hlt)
      have N2 := Aside0.mk (chainP_no2 rowR rowLt l0 z107 k hlt)
      have N3 := Aside0.mk (fun h0 : k = 0 => chainP_on0 rowR rowLt l0 z107 (by omega))
      have N4 := Aside0.mk (chainP_on rowR rowLt l0 z107 k hlt)
      clear e1 e2 hmem
      obtain ⟨x, hx⟩ : ∃ x, l0.getD k z107 = x := ⟨_, rfl⟩
      rw [hx] at hx0 hx1 N1 N2 N4 hd0 hK0 hd1 hK1 hbL hbS
      have HX := Aside0.mk hx
      have HRr := Aside0.mk (show rowR x = (labelsB x.f0 && (sok x.f1 && decide (1 ≤ (x.f1.length : Int) ∧ (x.f1.length : Int) ≤ 1000))) from rfl)
      have c1 : ∀ (b : Bool), labelsB x.f0 = b → ∀ n, Calls Try.prog 49 #[.slice B0 x.f0.length d0] (wr.drewN n) fun e w' => e = .returned (.bool b) ∧ Drawn0 (wr.drewN n) w' := fun b hb' n => spec_LabelsOk.calls B0 d0 x.f0 b _ (Kd.C_below hK0 (Drawn0.below (drawn_drewN HD.out n))) hd0 (by unfold spec_LabelsOk.f; rw [if_pos hbL, hb'])
      have c2 : ∀ (b : Bool), sok x.f1 = b → ∀ n, Calls Try.prog 50 #[.slice B1 x.f1.length d1] (wr.drewN n) fun e w' => e = .returned (.bool b) ∧ Drawn0 (wr.drewN n) w' := fun b hb' n => spec_l2Ok.calls B1 d1 x.f1 b _ (Kd.C_below hK1 (Drawn0.below (drawn_drewN HD.out n))) hd1 (by unfold spec_l2Ok.f; rw [if_pos hbS, hb'])
      have c3 : ∀ (b : Bool), decide (1 ≤ (x.f1.length : Int) ∧ (x.f1.length : Int) ≤ 1000) = b → ∀ n, Calls Try.prog 26 #[.int .i64 x.f1.length, .int .i64 1, .int .i64 1000] (wr.drewN n) fun e w' => e = .returned (.bool b) ∧ Drawn0 (wr.drewN n) w' := fun b hb' n => spec_l1In.calls x.f1.length 1 1000 b _ (by rw [l1In_dec, hb'])
      have c4 : ∀ (C0 : Option Addr) (f0 : Nat) (y : Rw), y.f0.length ≤ f0 → k119.C w C0 y.f0.length y.f0 → bdL y.f0 = true → ∀ n, Calls Try.prog 66 #[.slice C0 y.f0.length f0, .slice B0 x.f0.length d0] (wr.drewN n) fun e w' => e = .returned (.int .i64 (cmpL y.f0 x.f0)) ∧ Drawn0 (wr.drewN n) w' := fun C0 f0 y hf hC hb n => spec_l3Cmp.calls C0 f0 y.f0 B0 d0 x.f0 _ _ (Kd.C_below hC (Drawn0.below (drawn_drewN HD.out n))) hf (Kd.C_below hK0 (Drawn0.below (drawn_drewN HD.out n))) hd0 (by unfold spec_l3Cmp.f; rw [if_pos ⟨bdL_len hb, bdL_len hbL⟩])
      have C4 := Aside0.mk c4
      clear c4 hK0 hK1 hd0 hd1 hbL hbS
      obtain ⟨n0, hn0⟩ : ∃ n, x.f0.length = n := ⟨_, rfl⟩
      obtain ⟨n1, hn1⟩ : ∃ n, x.f1.length = n := ⟨_, rfl⟩
      rw [hn0] at hx0 c1 C4
      rw [hn1] at hx1 c2 c3 HRr
      clear hx hn0 hn1
      have p : (0 ≤ (k : Int)) = True := eq_true (by omega)
      have q : ((k : Int) < (l0.length : Int)) = True := eq_true (by omega)
      cases b1 : labelsB x.f0
      · have C1 := Aside0.mk (c1 false b1)
        have B1_ := Aside0.mk b1
        clear c1 c2 c3 b1
        go_wp2_with fail
        go_quiet ((go_at_call 49; exact quiet_D (C1.out _)))
        go_wp2
        go_ret
        exact ⟨by rw [HA.out, N1.out (by rw [HRr.out, B1_.out]; rfl)]; rfl, drawn_drewN HD.out _⟩
      have C1 := Aside0.mk (c1 true b1)
      have B1_ := Aside0.mk b1
      clear c1 b1
      cases b2 : sok x.f1
      · have C2 := Aside0.mk (c2 false b2)
        have B2_ := Aside0.mk b2
        clear c2 c3 b2
        go_wp2_with fail
        go_quiet ((first | (go_at_call 49; exact quiet_D (C1.out _)) | (go_at_call 50; exact quiet_D (C2.out _))))
        go_wp2
        go_ret
        exact ⟨by rw [HA.out, N1.out (by rw [HRr.out, B1_.out, B2_.out]; rfl)]; rfl, drawn_drewN HD.out _⟩
      have C2 := Aside0.mk (c2 true b2)
      have B2_ := Aside0.mk b2
      clear c2 b2
      cases b3 : decide (1 ≤ (n1 : Int) ∧ (n1 : Int) ≤ 1000)
      · have C3 := Aside0.mk (c3 false b3)
        have B3_ := Aside0.mk b3
        clear c3 b3
        go_wp2_with fail
        go_quiet ((first | (go_at_call 49; exact quiet_D (C1.out _)) | (go_at_call 50; exact quiet_D (C2.out _)) | (go_at_call 26; exact quiet_D (C3.out _))))
        go_wp2
        go_ret
        exact ⟨by rw [HA.out, N1.out (by rw [HRr.out, B1_.out, B2_.out, B3_.out]; rfl)]; rfl, drawn_drewN HD.out _⟩
      have C3 := Aside0.mk (c3 true b3)
      have BR := Aside0.mk (show rowR x = true by rw [HRr.out, B1_.out, B2_.out, b3]; rfl)
      clear c3 b3
      by_cases b4 : k = 0
      · have b4a : decide (0 < (k : Int)) = false := decide_eq_false (by omega)
        have b4n : decide (0 < k) = false := decide_eq_false (by omega)
        have B4 := Aside0.mk b4
        clear b4
        go_wp2_with fail
        go_quiet ((first | (go_at_call 49; exact quiet_D (C1.out _)) | (go_at_call 50; exact quiet_D (C2.out _)) | (go_at_call 26; exact quiet_D (C3.out _))))
        go_wp2
        go_roundw
        case rel => exact ⟨k + 1, by omega, by go_num, ⟨by have e := N3.out B4.out (by rw [← B4.out, HX.out]; exact BR.out); rw [HA.out]; rw [B4.out]; rw [e]⟩, ⟨drawn_drewN HD.out _⟩⟩
        case measure => simp [intOf]; omega
      obtain ⟨j, hj⟩ : ∃ j : Nat, k = j + 1 := ⟨k - 1, by omega⟩
      have b4a : decide (0 < (k : Int)) = true := decide_eq_true (by omega)
      have b4n : decide (0 < k) = true := decide_eq_true (by omega)
      have jw : IntKind.i64.wrap ((k : Int) - 1) = (j : Int) := by rw [IntWalk.i64_in _ (by omega)]; omega
      have p2 : (0 ≤ (j : Int)) = True := eq_true (by omega)
      have q2 : ((j : Int) < (l0.length : Int)) = True := eq_true (by omega)
      obtain ⟨ad2, E0, f0, E1, f1, e, hy0, _, hf0, hL0, _, _⟩ := at_T107 HR0.out (j : Int) (by omega) (by omega)
      obtain rfl : ad = ad2 := by injection e
      have e1 : (j : Int).toNat = j := by omega
      have e2 : rd_T107 l0 (j : Int) = l0.getD (k - 1) z107 := by unfold rd_T107; rw [e1, hj]; rfl
      rw [e1, e2] at hy0
      rw [e2] at hf0 hL0
      replace hy0 := ((Drawn0.below HD.out).cell (World.block_lt_of_cell? w _ hy0)).trans hy0
      have hmem2 : l0.getD (k - 1) z107 ∈ l0 := by rw [getD_at (show k - 1 < l0.length by omega)]; exact List.getElem_mem _
      have hbL2 := (bdW_at HS.out hmem2).1
      clear e e1 e2 b4 hmem2
      obtain ⟨y, hy⟩ : ∃ y, l0.getD (k - 1) z107 = y := ⟨_, rfl⟩
      rw [hy] at hy0 N2 N4 hf0 hL0 hbL2
      have C5 := Aside0.mk (C4.out E0 f0 y hf0 hL0 hbL2)
      have HL := Aside0.mk (show rowLt y x = decide (cmpL y.f0 x.f0 < 0) from rfl)
      obtain ⟨m0, hm0⟩ : ∃ n, y.f0.length = n := ⟨_, rfl⟩
      obtain ⟨cv, hcv⟩ : ∃ n, cmpL y.f0 x.f0 = n := ⟨_, rfl⟩
      rw [hm0] at hy0 C5
      rw [hcv] at C5 HL
      have HJ := Aside0.mk hj
      clear hy hj hf0 hL0 hbL2 hm0 hcv C4
      by_cases b5 : cv < 0
      · have b5a : decide (0 ≤ cv) = false := decide_eq_false (by omega)
        have B5 := Aside0.mk (decide_eq_true b5)
        clear b5
        go_wp2_with fail
        go_quiet ((first | (go_at_call 49; exact quiet_D (C1.out _)) | (go_at_call 50; exact quiet_D (C2.out _)) | (go_at_call 26; exact quiet_D (C3.out _)) | (go_at_call 66; exact quiet_D (C5.out _))))
        go_wp2
        go_roundw
        case rel => exact ⟨k + 1, by omega, by go_num, ⟨by rw [HA.out, N4.out (by have := HJ.out; omega) BR.out (HL.out.trans B5.out)]⟩, ⟨drawn_drewN HD.out _⟩⟩
        case measure => simp [intOf]; omega
      · have b5a : decide (0 ≤ cv) = true := decide_eq_true (by omega)
        have B5 := Aside0.mk (decide_eq_false b5)
        clear b5
        go_wp2_with fail
        go_quiet ((first | (go_at_call 49; exact quiet_D (C1.out _)) | (go_at_call 50; exact quiet_D (C2.out _)) | (go_at_call 26; exact quiet_D (C3.out _)) | (go_at_call 66; exact quiet_D (C5.out _))))
        go_wp2
        go_ret
        exact ⟨by rw [HA.out, N2.out (by have := HJ.out; omega) (HL.out.trans B5.out)]; rfl, drawn_drewN HD.out _⟩
    · have c0b : decide ((k : Int) < (l0.length : Int)) = false := decide_eq_false (by omega)
      have HE := Aside0.mk (chainP_end rowR rowLt l0 (prevG l0 z107 k) k (by omega))
      by_cases c5 : (l0.length : Int) ≤ 10
      · have c5a : decide ((l0.length : Int) ≤ 10) = true := decide_eq_true c5
        have c5b : decide (l0.length ≤ 10) = true := decide_eq_true (by omega)
        have F := Aside0.mk c5a
        clear c5
        go_wp2
        go_ret
        exact ⟨by rw [HA.out, HE.out, F.out]; rfl, HD.out⟩
      · have c5a : decide ((l0.length : Int) ≤ 10) = false := decide_eq_false c5
        have c5b : decide (l0.length ≤ 10) = false := decide_eq_false (by omega)
        have F := Aside0.mk c5a
        clear c5
        go_wp2
        go_ret
        exact ⟨by rw [HA.out, HE.out, F.out]; rfl, HD.out⟩

/-! ### spec_l6Last: function 39 -/
def spec_l6Last.l0 : Nat → List (S107) → Int → Int → Option (Int)
  | 0, _, _, _ => none
  | k + 1, x0, x3, x4 => if x4 < (x0.length : Int) then (if 0 ≤ x4 then (if 0 ≤ (wrap64 ((((rd_T107 x0 x4).f1).length : Int) - 1)) then (if (wrap64 ((((rd_T107 x0 x4).f1).length : Int) - 1)) < (((rd_T107 x0 x4).f1).length : Int) then (if ((rd_T87 ((rd_T107 x0 x4).f1) (wrap64 ((((rd_T107 x0 x4).f1).length : Int) - 1))).f0) > x3 then (spec_l6Last.l0 k x0 ((rd_T87 ((rd_T107 x0 x4).f1) (wrap64 ((((rd_T107 x0 x4).f1).length : Int) - 1))).f0) (wrap64 (x4 + 1))) else (spec_l6Last.l0 k x0 x3 (wrap64 (x4 + 1)))) else (none)) else (none)) else (none)) else (some x3)
def spec_l6Last.f (k : Nat) (l0 : List (S107)) : Option (Int) := spec_l6Last.l0 k l0 (-1) 0
theorem spec_l6Last.mono_l : ∀ k, (∀ y0 y1 y2, LeO (spec_l6Last.l0 k y0 y1 y2) (spec_l6Last.l0 (k + 1) y0 y1 y2))
  | 0 => fun _ _ _ r h => by simp [spec_l6Last.l0] at h
  | k + 1 => by
    have ih0 := spec_l6Last.mono_l k
    · intro y0 y1 y2
      unfold spec_l6Last.l0
      repeat' first
      | (with_reducible exact ih0 _ _ _)
      | (with_reducible exact LeO.refl _)
      | (with_reducible exact LeO.none _)
      | (with_reducible refine LeO.ite ?_ ?_)
      | (with_reducible refine LeO.bind ?_ (fun _ => ?_))
      | exact ih0 _ _ _
      | exact LeO.none _
      | refine LeO.ite ?_ ?_
      | refine LeO.bind ?_ (fun _ => ?_)
theorem spec_l6Last.mono : ∀ a0 k, LeO (spec_l6Last.f k a0) (spec_l6Last.f (k + 1) a0) := by
  intro a0 k
  have ih0 := spec_l6Last.mono_l k
  unfold spec_l6Last.f
  repeat' first
      | (with_reducible exact ih0 _ _ _)
      | (with_reducible exact LeO.refl _)
      | (with_reducible exact LeO.none _)
      | (with_reducible refine LeO.ite ?_ ?_)
      | (with_reducible refine LeO.bind ?_ (fun _ => ?_))
      | exact ih0 _ _ _
      | exact LeO.none _
      | refine LeO.ite ?_ ?_
      | refine LeO.bind ?_ (fun _ => ?_)
set_option maxHeartbeats 8000000 in
set_option maxRecDepth 100000 in
theorem spec_l6Last.calls (k : Nat) (A0 : Option Addr) (c0 : Nat) (l0 : List (S107)) (r : Int) (w : World) (hr0 : Kd.C k107 w A0 l0.length l0) (hc0 : l0.length ≤ c0) (h : spec_l6Last.f k l0 = some r) :
    Calls Try.prog 39 #[.slice A0 l0.length c0] w fun e w' => e = .returned (.int .i64 r) ∧ Drawn0 w w' := by
  have HR0 := Aside0.mk hr0
  have HC0 := Aside0.mk hc0
  clear hr0 hc0
  have H : (spec_l6Last.l0 k l0 (-1) 0) = some r := h
  clear h
  have H' := Aside0.mk H
  clear H
  go_enter Try.func39, Try.ntmps39
  go_wp2
  go_loopg [3, 4] k (fun kq v3 v4 w' => ∃ (x3_1 : Int) (x4_1 : Int), v3 = .int .i64 x3_1 ∧ v4 = .int .i64 x4_1 ∧ Aside0 (spec_l6Last.l0 kq l0 x3_1 x4_1 = some r) ∧ Aside0 (kq ≤ k) ∧ Drawn0 w w')
  case atStart => exact ⟨((-1)), (0), (by first | rfl | (simp; done) | (simp [*]; done) | (simp only [my_ne_nil]; rfl)), (by first | rfl | (simp; done) | (simp [*]; done) | (simp only [my_ne_nil]; rfl)), H', ⟨Nat.le_refl _⟩, by repeat (first | exact Drawn0.refl _ | apply Drawn0.step)⟩
  case round =>
    clear H'
    obtain ⟨x3_1, x4_1, rfl, rfl, HA, HK1, ⟨m1, rfl⟩⟩ := hrel
    cases gk with
    | zero => exact absurd HA.out (by simp [spec_l6Last.l0])
    | succ k1 =>
      have H := HA.out
      clear HA
      simp only [spec_l6Last.l0] at H
      by_cases c2 : x4_1 < (l0.length : Int)
      · rw [if_pos c2] at H
        have c2b0 : decide (x4_1 < (l0.length : Int)) = true := decide_eq_true c2
        clear c2
        by_cases c3 : 0 ≤ x4_1
        · rw [if_pos c3] at H
          have c3b0 : decide (0 ≤ x4_1) = true := decide_eq_true c3
          clear c3
          obtain ⟨ji4, hji4⟩ : ∃ j_ : Int, (wrap64 ((((rd_T107 l0 x4_1).f1).length : Int) - 1)) = j_ := ⟨_, rfl⟩
          replace H : (if 0 ≤ (ji4) then (if (ji4) < (((rd_T107 l0 x4_1).f1).length : Int) then (if ((rd_T87 ((rd_T107 l0 x4_1).f1) (ji4)).f0) > x3_1 then (spec_l6Last.l0 k1 l0 ((rd_T87 ((rd_T107 l0 x4_1).f1) (ji4)).f0) (wrap64 (x4_1 + 1))) else (spec_l6Last.l0 k1 l0 x3_1 (wrap64 (x4_1 + 1)))) else (none)) else (none)) = some r := by first | (rw [hji4] at H; exact H) | (simp only [hji4] at H ⊢; exact H)
          have hji4w : (IntKind.i64.wrap ((((rd_T107 l0 x4_1).f1).length : Int) - 1)) = ji4 := (i64_w _).trans hji4
          by_cases c5 : 0 ≤ (ji4)
          · rw [if_pos c5] at H
            have c5b0 : decide (0 ≤ (ji4)) = true := decide_eq_true c5
            clear c5
            by_cases c6 : (ji4) < (((rd_T107 l0 x4_1).f1).length : Int)
            · rw [if_pos c6] at H
              have c6b0 : decide ((ji4) < (((rd_T107 l0 x4_1).f1).length : Int)) = true := decide_eq_true c6
              clear c6
              by_cases c7 : ((rd_T87 ((rd_T107 l0 x4_1).f1) (ji4)).f0) > x3_1
              · rw [if_pos c7] at H
                have c7b0 : decide (x3_1 < ((rd_T87 ((rd_T107 l0 x4_1).f1) (ji4)).f0)) = true := decide_eq_true c7
                clear c7
                have H' := Aside0.mk H
                clear H
                have p111 : 0 ≤ (x4_1 : Int) := of_decide_eq_true (by first | (with_reducible assumption) | assumption)
                have q111 : x4_1 < (l0.length : Int) := of_decide_eq_true (by first | (with_reducible assumption) | assumption)
                obtain ⟨ad111, A111_0, c111_0, A111_1, c111_1, e111, hx111_0, hx111_1, hl111_0, hi111_0, hl111_1, hi111_1⟩ := at_T107 HR0.out x4_1 p111 q111
                cases e111
                have HR111_0 := Aside0.mk hi111_0
                have HC111_0 := Aside0.mk hl111_0
                clear hi111_0 hl111_0
                have HR111_1 := Aside0.mk hi111_1
                have HC111_1 := Aside0.mk hl111_1
                clear hi111_1 hl111_1
                replace p111 := eq_true p111
                replace q111 := eq_true q111
                have p112 : 0 ≤ (x4_1 : Int) := of_decide_eq_true (by first | (with_reducible assumption) | assumption)
                have q112 : x4_1 < (l0.length : Int) := of_decide_eq_true (by first | (with_reducible assumption) | assumption)
                obtain ⟨ad112, A112_0, c112_0, A112_1, c112_1, e112, hx112_0, hx112_1, hl112_0, hi112_0, hl112_1, hi112_1⟩ := at_T107 HR0.out x4_1 p112 q112
                obtain rfl : ad111 = ad112 := (by injection e112)
                have HR112_0 := Aside0.mk hi112_0
                have HC112_0 := Aside0.mk hl112_0
                clear hi112_0 hl112_0
                have HR112_1 := Aside0.mk hi112_1
                have HC112_1 := Aside0.mk hl112_1
                clear hi112_1 hl112_1
                replace p112 := eq_true p112
                replace q112 := eq_true q112
                have ea_ := Option.some.inj (hx111_0.symm.trans hx112_0)
                injection ea_ with ea_ en_ ec_
                subst ea_
                subst ec_
                clear en_
                have ea_ := Option.some.inj (hx111_1.symm.trans hx112_1)
                injection ea_ with ea_ en_ ec_
                subst ea_
                subst ec_
                clear en_
                have p113 : 0 ≤ ((ji4) : Int) := of_decide_eq_true (by first | (with_reducible assumption) | assumption)
                have q113 : (ji4) < (((rd_T107 l0 x4_1).f1).length : Int) := of_decide_eq_true (by first | (with_reducible assumption) | assumption)
                obtain ⟨ad113, e113, hx113_0, hx113_1⟩ := at_T87 HR112_1.out (ji4) p113 q113
                cases e113
                replace p113 := eq_true p113
                replace q113 := eq_true q113
                have p114 : 0 ≤ (x4_1 : Int) := of_decide_eq_true (by first | (with_reducible assumption) | assumption)
                have q114 : x4_1 < (l0.length : Int) := of_decide_eq_true (by first | (with_reducible assumption) | assumption)
                obtain ⟨ad114, A114_0, c114_0, A114_1, c114_1, e114, hx114_0, hx114_1, hl114_0, hi114_0, hl114_1, hi114_1⟩ := at_T107 HR0.out x4_1 p114 q114
                obtain rfl : ad111 = ad114 := (by injection e114)
                have HR114_0 := Aside0.mk hi114_0
                have HC114_0 := Aside0.mk hl114_0
                clear hi114_0 hl114_0
                have HR114_1 := Aside0.mk hi114_1
                have HC114_1 := Aside0.mk hl114_1
                clear hi114_1 hl114_1
                replace p114 := eq_true p114
                replace q114 := eq_true q114
                have ea_ := Option.some.inj (hx111_0.symm.trans hx114_0)
                injection ea_ with ea_ en_ ec_
                subst ea_
                subst ec_
                clear en_
                have ea_ := Option.some.inj (hx111_1.symm.trans hx114_1)
                injection ea_ with ea_ en_ ec_
                subst ea_
                subst ec_
                clear en_
                have p115 : 0 ≤ ((ji4) : Int) := of_decide_eq_true (by first | (with_reducible assumption) | assumption)
                have q115 : (ji4) < (((rd_T107 l0 x4_1).f1).length : Int) := of_decide_eq_true (by first | (with_reducible assumption) | assumption)
                obtain ⟨ad115, e115, hx115_0, hx115_1⟩ := at_T87 HR114_1.out (ji4) p115 q115
                cases e115
                replace p115 := eq_true p115
                replace q115 := eq_true q115
                go_wp2
                go_roundg k1
                case measure => have := HK1.out; omega
                case rel => exact ⟨((rd_T87 ((rd_T107 l0 x4_1).f1) (ji4)).f0), (wrap64 (x4_1 + 1)), (by first | rfl | (simp; done) | (simp only [← hji4] <;> (first | rfl | simp)) | (simp [*]; done) | (simp only [my_ne_nil]; rfl)), (by first | rfl | (simp; done) | (simp [*]; done) | (simp only [my_ne_nil]; rfl)), H', ⟨by have := HK1.out; omega⟩, by repeat (first | exact Drawn0.refl _ | apply Drawn0.step)⟩
              · rw [if_neg c7] at H
                have c7b0 : decide (x3_1 < ((rd_T87 ((rd_T107 l0 x4_1).f1) (ji4)).f0)) = false := decide_eq_false c7
                clear c7
                have H' := Aside0.mk H
                clear H
                have p111 : 0 ≤ (x4_1 : Int) := of_decide_eq_true (by first | (with_reducible assumption) | assumption)
                have q111 : x4_1 < (l0.length : Int) := of_decide_eq_true (by first | (with_reducible assumption) | assumption)
                obtain ⟨ad111, A111_0, c111_0, A111_1, c111_1, e111, hx111_0, hx111_1, hl111_0, hi111_0, hl111_1, hi111_1⟩ := at_T107 HR0.out x4_1 p111 q111
                cases e111
                have HR111_0 := Aside0.mk hi111_0
                have HC111_0 := Aside0.mk hl111_0
                clear hi111_0 hl111_0
                have HR111_1 := Aside0.mk hi111_1
                have HC111_1 := Aside0.mk hl111_1
                clear hi111_1 hl111_1
                replace p111 := eq_true p111
                replace q111 := eq_true q111
                have p112 : 0 ≤ (x4_1 : Int) := of_decide_eq_true (by first | (with_reducible assumption) | assumption)
                have q112 : x4_1 < (l0.length : Int) := of_decide_eq_true (by first | (with_reducible assumption) | assumption)
                obtain ⟨ad112, A112_0, c112_0, A112_1, c112_1, e112, hx112_0, hx112_1, hl112_0, hi112_0, hl112_1, hi112_1⟩ := at_T107 HR0.out x4_1 p112 q112
                obtain rfl : ad111 = ad112 := (by injection e112)
                have HR112_0 := Aside0.mk hi112_0
                have HC112_0 := Aside0.mk hl112_0
                clear hi112_0 hl112_0
                have HR112_1 := Aside0.mk hi112_1
                have HC112_1 := Aside0.mk hl112_1
                clear hi112_1 hl112_1
                replace p112 := eq_true p112
                replace q112 := eq_true q112
                have ea_ := Option.some.inj (hx111_0.symm.trans hx112_0)
                injection ea_ with ea_ en_ ec_
                subst ea_
                subst ec_
                clear en_
                have ea_ := Option.some.inj (hx111_1.symm.trans hx112_1)
                injection ea_ with ea_ en_ ec_
                subst ea_
                subst ec_
                clear en_
                have p113 : 0 ≤ ((ji4) : Int) := of_decide_eq_true (by first | (with_reducible assumption) | assumption)
                have q113 : (ji4) < (((rd_T107 l0 x4_1).f1).length : Int) := of_decide_eq_true (by first | (with_reducible assumption) | assumption)
                obtain ⟨ad113, e113, hx113_0, hx113_1⟩ := at_T87 HR112_1.out (ji4) p113 q113
                cases e113
                replace p113 := eq_true p113
                replace q113 := eq_true q113
                go_wp2
                go_roundg k1
                case measure => have := HK1.out; omega
                case rel => exact ⟨(x3_1), (wrap64 (x4_1 + 1)), (by first | rfl | (simp; done) | (simp [*]; done) | (simp only [my_ne_nil]; rfl)), (by first | rfl | (simp; done) | (simp [*]; done) | (simp only [my_ne_nil]; rfl)), H', ⟨by have := HK1.out; omega⟩, by repeat (first | exact Drawn0.refl _ | apply Drawn0.step)⟩
            · rw [if_neg c6] at H
              exact absurd H (by simp)
          · rw [if_neg c5] at H
            exact absurd H (by simp)
        · rw [if_neg c3] at H
          exact absurd H (by simp)
      · rw [if_neg c2] at H
        have c2b0 : decide (x4_1 < (l0.length : Int)) = false := decide_eq_false c2
        clear c2
        obtain rfl := Option.some.inj H
        go_wp2
        go_ret
        exact ⟨by first | rfl | (simp; done) | (simp [*]; done) | (simp only [my_ne_nil]; rfl), by repeat (first | exact Drawn0.refl _ | apply Drawn0.step)⟩

/-! ### spec_l6First: function 40 -/
def spec_l6First.l0 : Nat → List (S107) → Int → Int → Option (Int)
  | 0, _, _, _ => none
  | k + 1, x0, x3, x4 => if x4 < (x0.length : Int) then (if 0 ≤ x4 then (if 0 < (((rd_T107 x0 x4).f1).length : Int) then (if ((rd_T87 ((rd_T107 x0 x4).f1) 0).f0) < x3 then (spec_l6First.l0 k x0 ((rd_T87 ((rd_T107 x0 x4).f1) 0).f0) (wrap64 (x4 + 1))) else (spec_l6First.l0 k x0 x3 (wrap64 (x4 + 1)))) else (none)) else (none)) else (some x3)
def spec_l6First.f (k : Nat) (l0 : List (S107)) : Option (Int) := spec_l6First.l0 k l0 10000 0
theorem spec_l6First.mono_l : ∀ k, (∀ y0 y1 y2, LeO (spec_l6First.l0 k y0 y1 y2) (spec_l6First.l0 (k + 1) y0 y1 y2))
  | 0 => fun _ _ _ r h => by simp [spec_l6First.l0] at h
  | k + 1 => by
    have ih0 := spec_l6First.mono_l k
    · intro y0 y1 y2
      unfold spec_l6First.l0
      repeat' first
      | (with_reducible exact ih0 _ _ _)
      | (with_reducible exact LeO.refl _)
      | (with_reducible exact LeO.none _)
      | (with_reducible refine LeO.ite ?_ ?_)
      | (with_reducible refine LeO.bind ?_ (fun _ => ?_))
      | exact ih0 _ _ _
      | exact LeO.none _
      | refine LeO.ite ?_ ?_
      | refine LeO.bind ?_ (fun _ => ?_)
theorem spec_l6First.mono : ∀ a0 k, LeO (spec_l6First.f k a0) (spec_l6First.f (k + 1) a0) := by
  intro a0 k
  have ih0 := spec_l6First.mono_l k
  unfold spec_l6First.f
  repeat' first
      | (with_reducible exact ih0 _ _ _)
      | (with_reducible exact LeO.refl _)
      | (with_reducible exact LeO.none _)
      | (with_reducible refine LeO.ite ?_ ?_)
      | (with_reducible refine LeO.bind ?_ (fun _ => ?_))
      | exact ih0 _ _ _
      | exact LeO.none _
      | refine LeO.ite ?_ ?_
      | refine LeO.bind ?_ (fun _ => ?_)
set_option maxHeartbeats 8000000 in
set_option maxRecDepth 100000 in
theorem spec_l6First.calls (k : Nat) (A0 : Option Addr) (c0 : Nat) (l0 : List (S107)) (r : Int) (w : World) (hr0 : Kd.C k107 w A0 l0.length l0) (hc0 : l0.length ≤ c0) (h : spec_l6First.f k l0 = some r) :
    Calls Try.prog 40 #[.slice A0 l0.length c0] w fun e w' => e = .returned (.int .i64 r) ∧ Drawn0 w w' := by
  have HR0 := Aside0.mk hr0
  have HC0 := Aside0.mk hc0
  clear hr0 hc0
  have H : (spec_l6First.l0 k l0 10000 0) = some r := h
  clear h
  have H' := Aside0.mk H
  clear H
  go_enter Try.func40, Try.ntmps40
  go_wp2
  go_loopg [3, 4] k (fun kq v3 v4 w' => ∃ (x3_1 : Int) (x4_1 : Int), v3 = .int .i64 x3_1 ∧ v4 = .int .i64 x4_1 ∧ Aside0 (spec_l6First.l0 kq l0 x3_1 x4_1 = some r) ∧ Aside0 (kq ≤ k) ∧ Drawn0 w w')
  case atStart => exact ⟨(10000), (0), (by first | rfl | (simp; done) | (simp [*]; done) | (simp only [my_ne_nil]; rfl)), (by first | rfl | (simp; done) | (simp [*]; done) | (simp only [my_ne_nil]; rfl)), H', ⟨Nat.le_refl _⟩, by repeat (first | exact Drawn0.refl _ | apply Drawn0.step)⟩
  case round =>
    clear H'
    obtain ⟨x3_1, x4_1, rfl, rfl, HA, HK1, ⟨m1, rfl⟩⟩ := hrel
    cases gk with
    | zero => exact absurd HA.out (by simp [spec_l6First.l0])
    | succ k1 =>
      have H := HA.out
      clear HA
      simp only [spec_l6First.l0] at H
      by_cases c2 : x4_1 < (l0.length : Int)
      · rw [if_pos c2] at H
        have c2b0 : decide (x4_1 < (l0.length : Int)) = true := decide_eq_true c2
        clear c2
        by_cases c3 : 0 ≤ x4_1
        · rw [if_pos c3] at H
          have c3b0 : decide (0 ≤ x4_1) = true := decide_eq_true c3
          clear c3
          by_cases c4 : 0 < (((rd_T107 l0 x4_1).f1).length : Int)
          · rw [if_pos c4] at H
            have c4b0 : decide (0 < (((rd_T107 l0 x4_1).f1).length : Int)) = true := decide_eq_true c4
            have c4b1 : decide (0 < ((rd_T107 l0 x4_1).f1).length) = true := decide_eq_true (by omega)
            clear c4
            by_cases c5 : ((rd_T87 ((rd_T107 l0 x4_1).f1) 0).f0) < x3_1
            · rw [if_pos c5] at H
              have c5b0 : decide (((rd_T87 ((rd_T107 l0 x4_1).f1) 0).f0) < x3_1) = true := decide_eq_true c5
              clear c5
              have H' := Aside0.mk H
              clear H
              have p116 : 0 ≤ (x4_1 : Int) := of_decide_eq_true (by first | (with_reducible assumption) | assumption)
              have q116 : x4_1 < (l0.length : Int) := of_decide_eq_true (by first | (with_reducible assumption) | assumption)
              obtain ⟨ad116, A116_0, c116_0, A116_1, c116_1, e116, hx116_0, hx116_1, hl116_0, hi116_0, hl116_1, hi116_1⟩ := at_T107 HR0.out x4_1 p116 q116
              cases e116
              have HR116_0 := Aside0.mk hi116_0
              have HC116_0 := Aside0.mk hl116_0
              clear hi116_0 hl116_0
              have HR116_1 := Aside0.mk hi116_1
              have HC116_1 := Aside0.mk hl116_1
              clear hi116_1 hl116_1
              replace p116 := eq_true p116
              replace q116 := eq_true q116
              have p117 : 0 ≤ (0 : Int) := (by omega)
              have q117 : 0 < (((rd_T107 l0 x4_1).f1).length : Int) := of_decide_eq_true (by first | (with_reducible assumption) | assumption)
              obtain ⟨ad117, e117, hx117_0, hx117_1⟩ := at_T87 HR116_1.out 0 p117 q117
              cases e117
              have qi117 : (0 < ((rd_T107 l0 x4_1).f1).length) = True := eq_true (by omega)
              (try rw [show ((0 : Int)).toNat = 0 from rfl] at hx117_0)
              (try rw [show 0 * 2 = 0 from rfl] at hx117_0)
              (try rw [Addr.add_zero'] at hx117_0)
              (try rw [show ((0 : Int)).toNat = 0 from rfl] at hx117_1)
              (try rw [show 0 * 2 = 0 from rfl] at hx117_1)
              (try rw [Addr.add_zero'] at hx117_1)
              replace p117 := eq_true p117
              replace q117 := eq_true q117
              have p118 : 0 ≤ (x4_1 : Int) := of_decide_eq_true (by first | (with_reducible assumption) | assumption)
              have q118 : x4_1 < (l0.length : Int) := of_decide_eq_true (by first | (with_reducible assumption) | assumption)
              obtain ⟨ad118, A118_0, c118_0, A118_1, c118_1, e118, hx118_0, hx118_1, hl118_0, hi118_0, hl118_1, hi118_1⟩ := at_T107 HR0.out x4_1 p118 q118
              obtain rfl : ad116 = ad118 := (by injection e118)
              have HR118_0 := Aside0.mk hi118_0
              have HC118_0 := Aside0.mk hl118_0
              clear hi118_0 hl118_0
              have HR118_1 := Aside0.mk hi118_1
              have HC118_1 := Aside0.mk hl118_1
              clear hi118_1 hl118_1
              replace p118 := eq_true p118
              replace q118 := eq_true q118
              have ea_ := Option.some.inj (hx116_0.symm.trans hx118_0)
              injection ea_ with ea_ en_ ec_
              subst ea_
              subst ec_
              clear en_
              have ea_ := Option.some.inj (hx116_1.symm.trans hx118_1)
              injection ea_ with ea_ en_ ec_
              subst ea_
              subst ec_
              clear en_
              have p119 : 0 ≤ (0 : Int) := (by omega)
              have q119 : 0 < (((rd_T107 l0 x4_1).f1).length : Int) := of_decide_eq_true (by first | (with_reducible assumption) | assumption)
              obtain ⟨ad119, e119, hx119_0, hx119_1⟩ := at_T87 HR118_1.out 0 p119 q119
              cases e119
              have qi119 : (0 < ((rd_T107 l0 x4_1).f1).length) = True := eq_true (by omega)
              (try rw [show ((0 : Int)).toNat = 0 from rfl] at hx119_0)
              (try rw [show 0 * 2 = 0 from rfl] at hx119_0)
              (try rw [Addr.add_zero'] at hx119_0)
              (try rw [show ((0 : Int)).toNat = 0 from rfl] at hx119_1)
              (try rw [show 0 * 2 = 0 from rfl] at hx119_1)
              (try rw [Addr.add_zero'] at hx119_1)
              replace p119 := eq_true p119
              replace q119 := eq_true q119
              go_wp2
              go_roundg k1
              case measure => have := HK1.out; omega
              case rel => exact ⟨((rd_T87 ((rd_T107 l0 x4_1).f1) 0).f0), (wrap64 (x4_1 + 1)), (by first | rfl | (simp; done) | (simp [*]; done) | (simp only [my_ne_nil]; rfl)), (by first | rfl | (simp; done) | (simp [*]; done) | (simp only [my_ne_nil]; rfl)), H', ⟨by have := HK1.out; omega⟩, by repeat (first | exact Drawn0.refl _ | apply Drawn0.step)⟩
            · rw [if_neg c5] at H
              have c5b0 : decide (((rd_T87 ((rd_T107 l0 x4_1).f1) 0).f0) < x3_1) = false := decide_eq_false c5
              clear c5
              have H' := Aside0.mk H
              clear H
              have p116 : 0 ≤ (x4_1 : Int) := of_decide_eq_true (by first | (with_reducible assumption) | assumption)
              have q116 : x4_1 < (l0.length : Int) := of_decide_eq_true (by first | (with_reducible assumption) | assumption)
              obtain ⟨ad116, A116_0, c116_0, A116_1, c116_1, e116, hx116_0, hx116_1, hl116_0, hi116_0, hl116_1, hi116_1⟩ := at_T107 HR0.out x4_1 p116 q116
              cases e116
              have HR116_0 := Aside0.mk hi116_0
              have HC116_0 := Aside0.mk hl116_0
              clear hi116_0 hl116_0
              have HR116_1 := Aside0.mk hi116_1
              have HC116_1 := Aside0.mk hl116_1
              clear hi116_1 hl116_1
              replace p116 := eq_true p116
              replace q116 := eq_true q116
              have p117 : 0 ≤ (0 : Int) := (by omega)
              have q117 : 0 < (((rd_T107 l0 x4_1).f1).length : Int) := of_decide_eq_true (by first | (with_reducible assumption) | assumption)
              obtain ⟨ad117, e117, hx117_0, hx117_1⟩ := at_T87 HR116_1.out 0 p117 q117
              cases e117
              have qi117 : (0 < ((rd_T107 l0 x4_1).f1).length) = True := eq_true (by omega)
              (try rw [show ((0 : Int)).toNat = 0 from rfl] at hx117_0)
              (try rw [show 0 * 2 = 0 from rfl] at hx117_0)
              (try rw [Addr.add_zero'] at hx117_0)
              (try rw [show ((0 : Int)).toNat = 0 from rfl] at hx117_1)
              (try rw [show 0 * 2 = 0 from rfl] at hx117_1)
              (try rw [Addr.add_zero'] at hx117_1)
              replace p117 := eq_true p117
              replace q117 := eq_true q117
              go_wp2
              go_roundg k1
              case measure => have := HK1.out; omega
              case rel => exact ⟨(x3_1), (wrap64 (x4_1 + 1)), (by first | rfl | (simp; done) | (simp [*]; done) | (simp only [my_ne_nil]; rfl)), (by first | rfl | (simp; done) | (simp [*]; done) | (simp only [my_ne_nil]; rfl)), H', ⟨by have := HK1.out; omega⟩, by repeat (first | exact Drawn0.refl _ | apply Drawn0.step)⟩
          · rw [if_neg c4] at H
            exact absurd H (by simp)
        · rw [if_neg c3] at H
          exact absurd H (by simp)
      · rw [if_neg c2] at H
        have c2b0 : decide (x4_1 < (l0.length : Int)) = false := decide_eq_false c2
        clear c2
        obtain rfl := Option.some.inj H
        go_wp2
        go_ret
        exact ⟨by first | rfl | (simp; done) | (simp [*]; done) | (simp only [my_ne_nil]; rfl), by repeat (first | exact Drawn0.refl _ | apply Drawn0.step)⟩

/-! ### spec_l7Wide: function 45 -/
def spec_l7Wide.f (a0 : Int) : Option (Bool) := if a0 = 100 then (some true) else (if a0 = 300 then (some true) else (some (a0 == 900)))
set_option maxHeartbeats 8000000 in
set_option maxRecDepth 100000 in
theorem spec_l7Wide.calls (a0 : Int) (r : Bool) (w : World) (h : spec_l7Wide.f a0 = some r) :
    Calls Try.prog 45 #[.int .i64 a0] w fun e w' => e = .returned (.bool r) ∧ Drawn0 w w' := by
  have H : (if a0 = 100 then (some true) else (if a0 = 300 then (some true) else (some (a0 == 900)))) = some r := h
  clear h
  by_cases c2 : a0 = 100
  · rw [if_pos c2] at H
    have c2b0 : (a0 == 100) = true := beq_iff_eq.mpr c2
    have c2b1 : (a0 != 100) = false := bne_eq_false_iff_eq.mpr c2
    clear c2
    obtain rfl := Option.some.inj H
    go_enter Try.func45, Try.ntmps45
    go_wp2
    go_ret
    exact ⟨by first | rfl | (simp; done) | (simp [*]; done) | (simp only [my_ne_nil]; rfl), by repeat (first | exact Drawn0.refl _ | apply Drawn0.step)⟩
  · rw [if_neg c2] at H
    have c2b0 : (a0 == 100) = false := beq_eq_false_iff_ne.mpr c2
    have c2b1 : (a0 != 100) = true := bne_iff_ne.mpr c2
    by_cases c3 : a0 = 300
    · rw [if_pos c3] at H
      have c3b0 : (a0 == 300) = true := beq_iff_eq.mpr c3
      have c3b1 : (a0 != 300) = false := bne_eq_false_iff_eq.mpr c3
      clear c3
      obtain rfl := Option.some.inj H
      go_enter Try.func45, Try.ntmps45
      go_wp2
      go_ret
      exact ⟨by first | rfl | (simp; done) | (simp [*]; done) | (simp only [my_ne_nil]; rfl), by repeat (first | exact Drawn0.refl _ | apply Drawn0.step)⟩
    · rw [if_neg c3] at H
      have c3b0 : (a0 == 300) = false := beq_eq_false_iff_ne.mpr c3
      have c3b1 : (a0 != 300) = true := bne_iff_ne.mpr c3
      obtain rfl := Option.some.inj H
      go_enter Try.func45, Try.ntmps45
      go_wp2
      go_ret
      exact ⟨by first | rfl | (simp; done) | (simp [*]; done) | (simp only [my_ne_nil]; rfl), by repeat (first | exact Drawn0.refl _ | apply Drawn0.step)⟩

end Go.Proofs.Ytfipeogppcllnaa.QFnExactBlockOk
