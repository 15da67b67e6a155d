-- Written by wip/tools/mk.py (this session's program, which runs the kit's print): functions, and proofs that the machine's calls do what they say.
import Derived.Test.YtfipeogppcllnaaQFnExactBlockOkx0
import Derived.Test.YtfipeogppcllnaaQFnExactBlockOkx3
namespace Go.Proofs.Ytfipeogppcllnaa.QFnExactBlockOk
open Go.RowKit Go.Proofs.YtfipeogppcllnaaW.PrintWords Go.Proofs.YtfipeogppcllnaaW.PrintLast Go.Proofs.YtfipeogppcllnaaW.PrintMore
attribute [local go_sem] IntKind.wrap_u8 max2_int min2_int max_two min_two max_three min_three max_four min_four   -- for this text's walks alone
set_option linter.unusedVariables false
set_option linter.unusedSimpArgs false

/-! ### impl_isName: function 61 -/
def impl_isName.f (a0 : ByteArray) : Option Bool := if a0.size < 9223372036854775807 then some (lettersB a0 6 && (a0.toList != [])) else none
set_option maxHeartbeats 1000000 in
set_option maxRecDepth 100000 in
theorem impl_isName.calls (a0 : ByteArray) (r : Bool) (w : World) (h : impl_isName.f a0 = some r) :
    Calls Try.prog 61 #[.string a0] w fun e w' => e = .returned (.bool r) ∧ Drawn0 w w' := by
  unfold impl_isName.f at h
  split at h
  case isFalse => cases h
  case isTrue hs =>
  have hr := Aside0.mk (Option.some.inj h).symm
  clear h
  have hc : ∀ w, Calls Try.prog 79 #[.string a0, .int .i64 6] w fun e w' => e = .returned (.bool (lettersB a0 6)) ∧ Drawn0 w w' := fun w => impl_isLetters.calls a0 6 _ w (by unfold impl_isLetters.f; rw [if_pos hs])
  have HC := Aside0.mk hc
  clear hc
  by_cases c : a0.toList = ([] : List UInt8)
  · have ca : (a0.toList != ([] : List UInt8)) = false := bne_eq_false_iff_eq.mpr c
    have cb : (a0.toList == ([] : List UInt8)) = true := beq_iff_eq.mpr c
    have C := Aside0.mk ca
    clear c
    go_enter Try.func61, Try.ntmps61
    go_wp2_with (go_at_call 79; refine (HC.out _).mono ?_; rintro e w' ⟨rfl, ⟨nd, rfl⟩⟩)
    go_ret
    exact ⟨by rw [hr.out, C.out, Bool.and_false]; rfl, Drawn0.refl _⟩
  · have ca : (a0.toList != ([] : List UInt8)) = true := bne_iff_ne.mpr c
    have cb : (a0.toList == ([] : List UInt8)) = false := beq_eq_false_iff_ne.mpr c
    have C := Aside0.mk ca
    clear c
    go_enter Try.func61, Try.ntmps61
    go_wp2_with (go_at_call 79; refine (HC.out _).mono ?_; rintro e w' ⟨rfl, ⟨nd, rfl⟩⟩)
    go_ret
    exact ⟨by rw [hr.out, C.out, Bool.and_true]; rfl, ⟨⟨_, rfl⟩⟩⟩

/-! ### impl_isWord: function 62 -/
def impl_isWord.f (a0 : ByteArray) : Option Bool := if a0.size < 9223372036854775807 then some (lettersB a0 8) else none
set_option maxHeartbeats 1000000 in
set_option maxRecDepth 100000 in
theorem impl_isWord.calls (a0 : ByteArray) (r : Bool) (w : World) (h : impl_isWord.f a0 = some r) :
    Calls Try.prog 62 #[.string a0] w fun e w' => e = .returned (.bool r) ∧ Drawn0 w w' := by
  unfold impl_isWord.f at h
  split at h
  case isFalse => cases h
  case isTrue hs =>
  have hr := Aside0.mk (Option.some.inj h).symm
  clear h
  have hc : ∀ w, Calls Try.prog 79 #[.string a0, .int .i64 8] w fun e w' => e = .returned (.bool (lettersB a0 8)) ∧ Drawn0 w w' := fun w => impl_isLetters.calls a0 8 _ w (by unfold impl_isLetters.f; rw [if_pos hs])
  have HC := Aside0.mk hc
  clear hc
  go_enter Try.func62, Try.ntmps62
  go_wp2_with (go_at_call 79; refine (HC.out _).mono ?_; rintro e w' ⟨rfl, ⟨nd, rfl⟩⟩)
  go_ret
  exact ⟨by rw [hr.out]; rfl, ⟨⟨_, rfl⟩⟩⟩

/-! ### impl_LabelsOk: function 56 -/
def impl_LabelsOk.f (l0 : List Lbl) : Option Bool := if bdL l0 = true then some (labelsB l0) else none
set_option maxHeartbeats 4000000 in
set_option maxRecDepth 100000 in
theorem impl_LabelsOk.calls (A0 : Option Addr) (c0 : Nat) (l0 : List Lbl) (r : Bool) (w : World) (hr0 : Kd.C k119 w A0 l0.length l0) (hc0 : l0.length ≤ c0) (h : impl_LabelsOk.f l0 = some r) :
    Calls Try.prog 56 #[.slice A0 l0.length c0] w fun e w' => e = .returned (.bool r) ∧ Below w.heap.size w w' := by
  unfold impl_LabelsOk.f at h
  split at h
  case isFalse => cases h
  case isTrue hs =>
  have hr := Aside0.mk (Option.some.inj h).symm
  clear h
  have hu := Try.underlying119
  have HR0 := Aside0.mk hr0
  have HC0 := Aside0.mk hc0
  have HS := Aside0.mk hs
  have hN := bdL_len hs
  clear hr0 hc0 hs
  go_enter Try.func56, Try.ntmps56
  go_wp2
  go_loopw [7] (fun v wr => ∃ k : Nat, k ≤ l0.length ∧ v = .int .i64 k ∧ Aside0 (r = (chainP lblR lblLt (prevG l0 z119 k) (l0.drop k) && decide (1 ≤ l0.length ∧ l0.length ≤ 4))) ∧ Aside0 (Below w.heap.size w wr)) (fun v _ => l0.length - (intOf v).toNat)
  case atStart => exact ⟨0, Nat.zero_le _, rfl, ⟨hr.out⟩, ⟨Below.refl _ _⟩⟩
  case round =>
    obtain ⟨k, hk, rfl, HA, HD⟩ := hrel
    by_cases hlt : k < l0.length
    · have c0b : decide ((k : Int) < (l0.length : Int)) = true := decide_eq_true (by omega)
      obtain ⟨ad, e, hx0, hx1⟩ := at_T119 HR0.out (k : Int) (by omega) (by omega)
      cases e
      have e1 : (k : Int).toNat = k := by omega
      have e2 : rd_T119 l0 (k : Int) = l0.getD k z119 := by unfold rd_T119; rw [e1]
      rw [e1, e2] at hx0 hx1
      replace hx0 := (HD.out.cell (World.block_lt_of_cell? w _ hx0)).trans hx0
      replace hx1 := (HD.out.cell (World.block_lt_of_cell? w _ hx1)).trans hx1
      have hmem : l0.getD k z119 ∈ l0 := by rw [getD_at hlt]; exact List.getElem_mem _
      have hb := bdL_at HS.out hmem
      have N1 := Aside0.mk (chainP_no1 lblR lblLt l0 z119 k hlt)
      have N2 := Aside0.mk (chainP_no2 lblR lblLt l0 z119 k hlt)
      have N3 := Aside0.mk (fun h0 : k = 0 => chainP_on0 lblR lblLt l0 z119 (by omega))
      have N4 := Aside0.mk (chainP_on lblR lblLt l0 z119 k hlt)
      clear e1 e2 hmem
      obtain ⟨x, hx⟩ : ∃ x, l0.getD k z119 = x := ⟨_, rfl⟩
      rw [hx] at hx0 hx1 hb N1 N2 N4
      have hR : lblR x = ((lettersB x.f0 6 && (x.f0.toList != [])) && lettersB x.f1 8 && (x.f1.toList != [])) := rfl
      have HX := Aside0.mk hx
      obtain ⟨nm, hnm⟩ : ∃ s, x.f0 = s := ⟨_, rfl⟩
      obtain ⟨wd, hwd⟩ : ∃ s, x.f1 = s := ⟨_, rfl⟩
      have HNM := Aside0.mk hnm
      rw [hnm, hwd] at hR hb
      rw [hnm] at hx0
      rw [hwd] at hx1
      have HRr := Aside0.mk hR
      clear hx hnm hwd hR
      have p : (0 ≤ (k : Int)) = True := eq_true (by omega)
      have q : ((k : Int) < (l0.length : Int)) = True := eq_true (by omega)
      have c1 : ∀ (b : Bool), (lettersB nm 6 && (nm.toList != [])) = b → ∀ w, Calls Try.prog 61 #[.string nm] w fun e w' => e = .returned (.bool b) ∧ Drawn0 w w' := fun b hb' w => impl_isName.calls nm b w (by unfold impl_isName.f; rw [if_pos hb.1, hb'])
      have c2 : ∀ (b : Bool), lettersB wd 8 = b → ∀ w, Calls Try.prog 62 #[.string wd] w fun e w' => e = .returned (.bool b) ∧ Drawn0 w w' := fun b hb' w => impl_isWord.calls wd b w (by unfold impl_isWord.f; rw [if_pos hb.2, hb'])
      clear hb
      cases b1 : (lettersB nm 6 && (nm.toList != []))
      · have C1 := Aside0.mk (c1 false b1)
        have B1 := Aside0.mk b1
        clear c1 c2 b1
        go_wp2_with fail
        go_quiet ((go_at_call 61; exact quiet_D (C1.out _)))
        go_wp2
        go_ret
        exact ⟨by rw [HA.out, N1.out (by rw [HRr.out, B1.out]; rfl)]; rfl, pw_below_drewN (HD.out.alloc (by first | exact HD.out.size | exact Nat.le_refl _) _) _⟩
      have C1 := Aside0.mk (c1 true b1)
      have B1 := Aside0.mk b1
      clear c1 b1
      cases b2 : lettersB wd 8
      · have C2 := Aside0.mk (c2 false b2)
        have B2 := Aside0.mk b2
        clear c2 b2
        go_wp2_with fail
        go_quiet ((first | (go_at_call 61; exact quiet_D (C1.out _)) | (go_at_call 62; exact quiet_D (C2.out _))))
        go_wp2
        go_ret
        exact ⟨by rw [HA.out, N1.out (by rw [HRr.out, B1.out, B2.out]; rfl)]; rfl, pw_below_drewN (HD.out.alloc (by first | exact HD.out.size | exact Nat.le_refl _) _) _⟩
      have C2 := Aside0.mk (c2 true b2)
      have B2 := Aside0.mk b2
      clear c2 b2
      by_cases b3 : wd.toList = ([] : List UInt8)
      · have b3a : (wd.toList == ([] : List UInt8)) = true := beq_iff_eq.mpr b3
        have B3 := Aside0.mk b3
        clear b3
        go_wp2_with fail
        go_quiet ((first | (go_at_call 61; exact quiet_D (C1.out _)) | (go_at_call 62; exact quiet_D (C2.out _))))
        go_wp2
        go_ret
        exact ⟨by rw [HA.out, N1.out (by rw [HRr.out, B1.out, B2.out, B3.out]; rfl)]; rfl, pw_below_drewN (HD.out.alloc (by first | exact HD.out.size | exact Nat.le_refl _) _) _⟩
      have b3a : (wd.toList == ([] : List UInt8)) = false := beq_eq_false_iff_ne.mpr b3
      have BR := Aside0.mk (show lblR x = true by rw [HRr.out, B1.out, B2.out]; simpa using b3)
      clear b3
      by_cases b4 : k = 0
      · have b4a : decide (0 < (k : Int)) = false := decide_eq_false (by omega)
        have b4n : decide (0 < k) = false := decide_eq_false (by omega)
        have B4 := Aside0.mk b4
        clear b4
        go_wp2_with fail
        go_quiet ((first | (go_at_call 61; exact quiet_D (C1.out _)) | (go_at_call 62; exact quiet_D (C2.out _))))
        go_wp2
        go_roundw
        case rel => exact ⟨k + 1, by omega, by go_num, ⟨by have e := N3.out B4.out (by rw [← B4.out, HX.out]; exact BR.out); rw [HA.out]; rw [B4.out]; rw [e]⟩, ⟨pw_below_drewN (HD.out.alloc (by first | exact HD.out.size | exact Nat.le_refl _) _) _⟩⟩
        case measure => simp [intOf]; omega
      obtain ⟨j, hj⟩ : ∃ j : Nat, k = j + 1 := ⟨k - 1, by omega⟩
      have b4a : decide (0 < (k : Int)) = true := decide_eq_true (by omega)
      have b4n : decide (0 < k) = true := decide_eq_true (by omega)
      have jw : IntKind.i64.wrap ((k : Int) - 1) = (j : Int) := by rw [IntWalk.i64_in _ (by omega)]; omega
      have p2 : (0 ≤ (j : Int)) = True := eq_true (by omega)
      have q2 : ((j : Int) < (l0.length : Int)) = True := eq_true (by omega)
      obtain ⟨ad2, e, hy0, hy1⟩ := at_T119 HR0.out (j : Int) (by omega) (by omega)
      obtain rfl : ad = ad2 := by injection e
      have e1 : (j : Int).toNat = j := by omega
      have e2 : rd_T119 l0 (j : Int) = l0.getD (k - 1) z119 := by unfold rd_T119; rw [e1, hj]; rfl
      rw [e1, e2] at hy0
      replace hy0 := (HD.out.cell (World.block_lt_of_cell? w _ hy0)).trans hy0
      clear e e1 e2 hy1 b4
      obtain ⟨y, hy⟩ : ∃ y, l0.getD (k - 1) z119 = y := ⟨_, rfl⟩
      rw [hy] at hy0 N2 N4
      have HY := Aside0.mk hy
      obtain ⟨pn, hpn⟩ : ∃ s, y.f0 = s := ⟨_, rfl⟩
      have HPN := Aside0.mk hpn
      rw [hpn] at hy0
      have hya : ∀ o, (wr.alloc o).cell? (ad.add (j * 2)) = some (.string pn) := fun o => (Below.cell ((Below.refl _ wr).alloc (Nat.le_refl _) o) (World.block_lt_of_cell? wr _ hy0)).trans hy0
      have HJ := Aside0.mk hj
      clear hy hpn hj
      have hl : lblLt y x = Op.bytesLess pn.toList nm.toList := by unfold lblLt; rw [HPN.out, HNM.out]
      have HL := Aside0.mk hl
      clear hl
      cases b5 : Op.bytesLess pn.toList nm.toList
      · have B5 := Aside0.mk b5
        go_wp2_with fail
        go_quiet ((first | (go_at_call 61; exact quiet_D (C1.out _)) | (go_at_call 62; exact quiet_D (C2.out _))))
        go_wp2
        go_ret
        exact ⟨by rw [HA.out, N2.out (by have := HJ.out; omega) (HL.out.trans B5.out)]; rfl, pw_below_drewN (HD.out.alloc (by first | exact HD.out.size | exact Nat.le_refl _) _) _⟩
      · have B5 := Aside0.mk b5
        go_wp2_with fail
        go_quiet ((first | (go_at_call 61; exact quiet_D (C1.out _)) | (go_at_call 62; exact quiet_D (C2.out _))))
        go_wp2
        go_roundw
        case rel => exact ⟨k + 1, by omega, by go_num, ⟨by rw [HA.out, N4.out (by have := HJ.out; omega) BR.out (HL.out.trans B5.out)]⟩, ⟨pw_below_drewN (HD.out.alloc (by first | exact HD.out.size | exact Nat.le_refl _) _) _⟩⟩
        case measure => simp [intOf]; omega
    · have c0b : decide ((k : Int) < (l0.length : Int)) = false := decide_eq_false (by omega)
      have HE := Aside0.mk (chainP_end lblR lblLt l0 (prevG l0 z119 k) k (by omega))
      by_cases c1 : 1 ≤ l0.length
      · have c1a : decide (1 ≤ (l0.length : Int)) = true := decide_eq_true (by omega)
        by_cases c2 : l0.length ≤ 4
        · have c2a : decide ((l0.length : Int) ≤ 4) = true := decide_eq_true (by omega)
          have C := Aside0.mk (decide_eq_true (show 1 ≤ l0.length ∧ l0.length ≤ 4 from ⟨c1, c2⟩))
          clear c1 c2
          go_wp2
          repeat (go_quiet (fail); try go_wp2)
          go_ret
          exact ⟨by rw [HA.out, HE.out, C.out]; rfl, HD.out⟩
        · have c2a : decide ((l0.length : Int) ≤ 4) = false := decide_eq_false (by omega)
          have C := Aside0.mk (decide_eq_false (show ¬ (1 ≤ l0.length ∧ l0.length ≤ 4) from fun h => c2 h.2))
          clear c1 c2
          go_wp2
          repeat (go_quiet (fail); try go_wp2)
          go_ret
          exact ⟨by rw [HA.out, HE.out, C.out]; rfl, HD.out⟩
      · have c1a : decide (1 ≤ (l0.length : Int)) = false := decide_eq_false (by omega)
        have C := Aside0.mk (decide_eq_false (show ¬ (1 ≤ l0.length ∧ l0.length ≤ 4) from fun h => c1 h.1))
        clear c1
        go_wp2
        repeat (go_quiet (fail); try go_wp2)
        go_ret
        exact ⟨by rw [HA.out, HE.out, C.out]; rfl, HD.out⟩

/-! ### impl_isTime: function 34 -/
def impl_isTime.f (a0 : Int) : Option (Bool) := if a0 ≥ 0 then (some (decide (a0 ≤ 9999))) else (some false)
set_option maxHeartbeats 8000000 in
set_option maxRecDepth 100000 in
theorem impl_isTime.calls (a0 : Int) (r : Bool) (w : World) (h : impl_isTime.f a0 = some r) :
    Calls Try.prog 34 #[.int .i64 a0] w fun e w' => e = .returned (.bool r) ∧ Drawn0 w w' := by
  have H : (if a0 ≥ 0 then (some (decide (a0 ≤ 9999))) else (some false)) = some r := h
  clear h
  by_cases c2 : a0 ≥ 0
  · rw [if_pos c2] at H
    have c2b0 : decide (0 ≤ a0) = true := decide_eq_true c2
    clear c2
    obtain rfl := Option.some.inj H
    go_enter Try.func34, Try.ntmps34
    go_wp2
    go_ret
    exact ⟨by first | rfl | (simp; done) | (simp [*]; done) | (simp only [my_ne_nil]; rfl), by repeat (first | exact Drawn0.refl _ | apply Drawn0.step)⟩
  · rw [if_neg c2] at H
    have c2b0 : decide (0 ≤ a0) = false := decide_eq_false c2
    clear c2
    obtain rfl := Option.some.inj H
    go_enter Try.func34, Try.ntmps34
    go_wp2
    go_ret
    exact ⟨by first | rfl | (simp; done) | (simp [*]; done) | (simp only [my_ne_nil]; rfl), by repeat (first | exact Drawn0.refl _ | apply Drawn0.step)⟩

/-! ### impl_isValue: function 57 -/
def impl_isValue.f (a0 : Int) : Option (Bool) := if a0 ≥ 0 then (some (decide (a0 ≤ 2147483647))) else (some false)
set_option maxHeartbeats 8000000 in
set_option maxRecDepth 100000 in
theorem impl_isValue.calls (a0 : Int) (r : Bool) (w : World) (h : impl_isValue.f a0 = some r) :
    Calls Try.prog 57 #[.int .i64 a0] w fun e w' => e = .returned (.bool r) ∧ Drawn0 w w' := by
  have H : (if a0 ≥ 0 then (some (decide (a0 ≤ 2147483647))) else (some false)) = some r := h
  clear h
  by_cases c2 : a0 ≥ 0
  · rw [if_pos c2] at H
    have c2b0 : decide (0 ≤ a0) = true := decide_eq_true c2
    clear c2
    obtain rfl := Option.some.inj H
    go_enter Try.func57, Try.ntmps57
    go_wp2
    go_ret
    exact ⟨by first | rfl | (simp; done) | (simp [*]; done) | (simp only [my_ne_nil]; rfl), by repeat (first | exact Drawn0.refl _ | apply Drawn0.step)⟩
  · rw [if_neg c2] at H
    have c2b0 : decide (0 ≤ a0) = false := decide_eq_false c2
    clear c2
    obtain rfl := Option.some.inj H
    go_enter Try.func57, Try.ntmps57
    go_wp2
    go_ret
    exact ⟨by first | rfl | (simp; done) | (simp [*]; done) | (simp only [my_ne_nil]; rfl), by repeat (first | exact Drawn0.refl _ | apply Drawn0.step)⟩

/-! ### impl_SamplesOk: function 68 -/
def impl_SamplesOk.f (l0 : List Smp) : Option Bool := if l0.length < 9223372036854775807 then some (sok l0) else none
theorem isTime_dec (a : Int) : impl_isTime.f a = some (decide (0 ≤ a ∧ a ≤ 9999)) := by
  unfold impl_isTime.f
  by_cases h : a ≥ 0
  · rw [if_pos h]; have h' : 0 ≤ a := h; simp [h']
  · rw [if_neg h]; have h' : ¬ 0 ≤ a := h; simp [h']
theorem isValue_dec (a : Int) : impl_isValue.f a = some (decide (0 ≤ a ∧ a ≤ 2147483647)) := by
  unfold impl_isValue.f
  by_cases h : a ≥ 0
  · rw [if_pos h]; have h' : 0 ≤ a := h; simp [h']
  · rw [if_neg h]; have h' : ¬ 0 ≤ a := h; simp [h']
set_option maxHeartbeats 4000000 in
set_option maxRecDepth 100000 in
theorem impl_SamplesOk.calls (A0 : Option Addr) (c0 : Nat) (l0 : List Smp) (r : Bool) (w : World) (hr0 : Kd.C k87 w A0 l0.length l0) (hc0 : l0.length ≤ c0) (h : impl_SamplesOk.f l0 = some r) :
    Calls Try.prog 68 #[.slice A0 l0.length c0] w fun e w' => e = .returned (.bool r) ∧ Below w.heap.size w w' := by
  unfold impl_SamplesOk.f at h
  split at h
  case isFalse => cases h
  case isTrue hN =>
  have hr := Aside0.mk (Option.some.inj h).symm
  clear h
  have hu := Try.underlying87
  have HR0 := Aside0.mk hr0
  clear hr0 hc0
  go_enter Try.func68, Try.ntmps68
  go_wp2
  go_loopw [7] (fun v wr => ∃ k : Nat, k ≤ l0.length ∧ v = .int .i64 k ∧ Aside0 (r = chainP inR smpLt (prevG l0 z87 k) (l0.drop k)) ∧ Aside0 (Below w.heap.size w wr)) (fun v _ => l0.length - (intOf v).toNat)
  case atStart => exact ⟨0, Nat.zero_le _, rfl, ⟨hr.out⟩, ⟨Below.refl _ _⟩⟩
  case round =>
    obtain ⟨k, hk, rfl, HA, HD⟩ := hrel
    by_cases hlt : k < l0.length
    · have c0b : decide ((k : Int) < (l0.length : Int)) = true := decide_eq_true (by omega)
      obtain ⟨ad, e, hx0, hx1⟩ := at_T87 HR0.out (k : Int) (by omega) (by omega)
      cases e
      have e1 : (k : Int).toNat = k := by omega
      have e2 : rd_T87 l0 (k : Int) = l0.getD k z87 := by unfold rd_T87; rw [e1]
      rw [e1, e2] at hx0 hx1
      replace hx0 := (HD.out.cell (World.block_lt_of_cell? w _ hx0)).trans hx0
      replace hx1 := (HD.out.cell (World.block_lt_of_cell? w _ hx1)).trans hx1
      have N1 := Aside0.mk (chainP_no1 inR smpLt l0 z87 k hlt)
      have N2 := Aside0.mk (chainP_no2 inR smpLt l0 z87 k hlt)
      have N3 := Aside0.mk (fun h0 : k = 0 => chainP_on0 inR smpLt l0 z87 (by omega))
      have N4 := Aside0.mk (chainP_on inR smpLt l0 z87 k hlt)
      clear e1 e2
      obtain ⟨x, hx⟩ : ∃ x, l0.getD k z87 = x := ⟨_, rfl⟩
      rw [hx] at hx0 hx1 N1 N2 N4
      have HX := Aside0.mk hx
      obtain ⟨T, hT⟩ : ∃ s, x.f0 = s := ⟨_, rfl⟩
      obtain ⟨V, hV⟩ : ∃ s, x.f1 = s := ⟨_, rfl⟩
      have hR : inR x = (decide (0 ≤ T ∧ T ≤ 9999) && decide (0 ≤ V ∧ V ≤ 2147483647)) := by
        unfold inR
        rw [hT, hV, ← Bool.coe_iff_coe]
        simp [and_assoc]
      rw [hT] at hx0
      rw [hV] at hx1
      have HRr := Aside0.mk hR
      have HT := Aside0.mk hT
      clear hx hT hV hR
      obtain ⟨W, hW⟩ : ∃ W, wr.alloc (.cells #[.int .i64 T, .int .i64 V] 87) = W := ⟨_, rfl⟩
      have y0 : W.cell? ⟨wr.heap.size, 0, none⟩ = some (.int .i64 T) := by rw [← hW]; exact blk_cell (blk_new wr _) 0
      have y1 : W.cell? ⟨wr.heap.size, 1, none⟩ = some (.int .i64 V) := by rw [← hW]; exact blk_cell (blk_new wr _) 1
      have HBW := Aside0.mk (show Below w.heap.size w W by rw [← hW]; exact HD.out.alloc HD.out.size _)
      have p : (0 ≤ (k : Int)) = True := eq_true (by omega)
      have q : ((k : Int) < (l0.length : Int)) = True := eq_true (by omega)
      have c1 : ∀ (b : Bool), decide (0 ≤ T ∧ T ≤ 9999) = b → ∀ w, Calls Try.prog 34 #[.int .i64 T] w fun e w' => e = .returned (.bool b) ∧ Drawn0 w w' := fun b hb' w => impl_isTime.calls T b w (by rw [isTime_dec, hb'])
      have c2 : ∀ (b : Bool), decide (0 ≤ V ∧ V ≤ 2147483647) = b → ∀ w, Calls Try.prog 57 #[.int .i64 V] w fun e w' => e = .returned (.bool b) ∧ Drawn0 w w' := fun b hb' w => impl_isValue.calls V b w (by rw [isValue_dec, hb'])
      cases b1 : decide (0 ≤ T ∧ T ≤ 9999)
      · have C1 := Aside0.mk (c1 false b1)
        have B1 := Aside0.mk b1
        clear c1 c2 b1
        go_wp2_with fail
        try rw [hW]
        clear hW hx0 hx1
        go_quiet ((go_at_call 34; exact quiet_D (C1.out _)))
        go_wp2
        go_ret
        exact ⟨by rw [HA.out, N1.out (by rw [HRr.out, B1.out]; rfl)]; rfl, pw_below_drewN HBW.out _⟩
      have C1 := Aside0.mk (c1 true b1)
      have B1 := Aside0.mk b1
      clear c1 b1
      cases b2 : decide (0 ≤ V ∧ V ≤ 2147483647)
      · have C2 := Aside0.mk (c2 false b2)
        have B2 := Aside0.mk b2
        clear c2 b2
        go_wp2_with fail
        try rw [hW]
        clear hW hx0 hx1
        go_quiet ((first | (go_at_call 34; exact quiet_D (C1.out _)) | (go_at_call 57; exact quiet_D (C2.out _))))
        go_wp2
        go_ret
        exact ⟨by rw [HA.out, N1.out (by rw [HRr.out, B1.out, B2.out]; rfl)]; rfl, pw_below_drewN HBW.out _⟩
      have C2 := Aside0.mk (c2 true b2)
      have B2 := Aside0.mk b2
      clear c2 b2
      have BR := Aside0.mk (show inR x = true by rw [HRr.out, B1.out, B2.out]; rfl)
      by_cases b4 : k = 0
      · have b4a : decide (0 < (k : Int)) = false := decide_eq_false (by omega)
        have b4n : decide (0 < k) = false := decide_eq_false (by omega)
        have B4 := Aside0.mk b4
        clear b4
        go_wp2_with fail
        try rw [hW]
        clear hW hx0 hx1
        go_quiet ((first | (go_at_call 34; exact quiet_D (C1.out _)) | (go_at_call 57; exact quiet_D (C2.out _))))
        go_wp2
        go_roundw
        case rel => exact ⟨k + 1, by omega, by go_num, ⟨by have e := N3.out B4.out (by rw [← B4.out, HX.out]; exact BR.out); rw [HA.out]; rw [B4.out]; rw [e]⟩, ⟨pw_below_drewN HBW.out _⟩⟩
        case measure => simp [intOf]; omega
      obtain ⟨j, hj⟩ : ∃ j : Nat, k = j + 1 := ⟨k - 1, by omega⟩
      have b4a : decide (0 < (k : Int)) = true := decide_eq_true (by omega)
      have b4n : decide (0 < k) = true := decide_eq_true (by omega)
      have jw : IntKind.i64.wrap ((k : Int) - 1) = (j : Int) := by rw [IntWalk.i64_in _ (by omega)]; omega
      have p2 : (0 ≤ (j : Int)) = True := eq_true (by omega)
      have q2 : ((j : Int) < (l0.length : Int)) = True := eq_true (by omega)
      obtain ⟨ad2, e, hy0, _⟩ := at_T87 HR0.out (j : Int) (by omega) (by omega)
      obtain rfl : ad = ad2 := by injection e
      have e1 : (j : Int).toNat = j := by omega
      have e2 : rd_T87 l0 (j : Int) = l0.getD (k - 1) z87 := by unfold rd_T87; rw [e1, hj]; rfl
      rw [e1, e2] at hy0
      replace hy0 := (HBW.out.cell (World.block_lt_of_cell? w _ hy0)).trans hy0
      clear e e1 e2 b4
      obtain ⟨y, hy⟩ : ∃ y, l0.getD (k - 1) z87 = y := ⟨_, rfl⟩
      rw [hy] at hy0 N2 N4
      obtain ⟨Y, hY⟩ : ∃ s, y.f0 = s := ⟨_, rfl⟩
      rw [hY] at hy0
      have HL := Aside0.mk (show smpLt y x = decide (Y < T) by unfold smpLt; rw [hY, HT.out])
      have HJ := Aside0.mk hj
      clear hy hj hY
      by_cases b5 : T ≤ Y
      · have b5a : decide (T ≤ Y) = true := decide_eq_true b5
        have B5 := Aside0.mk (show decide (Y < T) = false from decide_eq_false (by omega))
        clear b5
        go_wp2_with fail
        try rw [hW]
        clear hW hx0 hx1
        go_quiet ((first | (go_at_call 34; exact quiet_D (C1.out _)) | (go_at_call 57; exact quiet_D (C2.out _))))
        go_wp2
        go_ret
        exact ⟨by rw [HA.out, N2.out (by have := HJ.out; omega) (HL.out.trans B5.out)]; rfl, pw_below_drewN HBW.out _⟩
      · have b5a : decide (T ≤ Y) = false := decide_eq_false b5
        have B5 := Aside0.mk (show decide (Y < T) = true from decide_eq_true (by omega))
        clear b5
        go_wp2_with fail
        try rw [hW]
        clear hW hx0 hx1
        go_quiet ((first | (go_at_call 34; exact quiet_D (C1.out _)) | (go_at_call 57; exact quiet_D (C2.out _))))
        go_wp2
        go_roundw
        case rel => exact ⟨k + 1, by omega, by go_num, ⟨by rw [HA.out, N4.out (by have := HJ.out; omega) BR.out (HL.out.trans B5.out)]⟩, ⟨pw_below_drewN HBW.out _⟩⟩
        case measure => simp [intOf]; omega
    · have c0b : decide ((k : Int) < (l0.length : Int)) = false := decide_eq_false (by omega)
      have HE := Aside0.mk (chainP_end inR smpLt l0 (prevG l0 z87 k) k (by omega))
      go_wp2
      go_ret
      exact ⟨by rw [HA.out, HE.out]; rfl, HD.out⟩

/-! ### cmp_Or_int: function 96 -/
def cmpOr.f : Unit := ()
set_option maxHeartbeats 1000000 in
set_option maxRecDepth 100000 in
theorem cmpOr.calls (x y : Int) (bk : Nat) (c : Nat) (w : World) (h0 : w.cell? ⟨bk, 0, none⟩ = some (.int .i64 x)) (h1 : w.cell? ⟨bk, 1, none⟩ = some (.int .i64 y)) : Calls Try.prog 96 #[.slice (some ⟨bk, 0, none⟩) 2 c] w fun e w' => e = .returned (.int .i64 (orI x y)) ∧ Below w.heap.size w w' := by
  obtain ⟨v, hv⟩ : ∃ v, orI x y = v := ⟨_, rfl⟩
  rw [hv]
  have HV := Aside0.mk hv
  clear hv
  go_enter Try.func96, Try.ntmps96
  go_wp2
  go_loopw [8] (fun v wr => ∃ k : Nat, k ≤ 2 ∧ v = .int .i64 k ∧ Aside0 (k = 0 ∨ x = 0) ∧ Aside0 (k = 2 → y = 0) ∧ wr = w) (fun v _ => 2 - (intOf v).toNat)
  case atStart => exact ⟨0, by omega, rfl, ⟨Or.inl rfl⟩, ⟨fun h => by cases h⟩, by first | trivial | rfl⟩
  case round =>
    obtain ⟨k, hk, rfl, H0, H2, rfl⟩ := hrel
    match k, hk, H0, H2 with
    | 0, hk, H0, H2 =>
      by_cases hx : x = 0
      · have b1 : (x != 0) = false := bne_eq_false_iff_eq.mpr hx
        have b2 : (x == 0) = true := beq_iff_eq.mpr hx
        have HX := Aside0.mk hx
        clear hx
        go_wp2
        go_roundw
        case rel => exact ⟨1, by omega, rfl, ⟨Or.inr HX.out⟩, ⟨fun h => by cases h⟩, by first | trivial | rfl⟩
        case measure => simp [intOf]
      · have b1 : (x != 0) = true := bne_iff_ne.mpr hx
        have b2 : (x == 0) = false := beq_eq_false_iff_ne.mpr hx
        have HX := Aside0.mk hx
        clear hx
        go_wp2
        go_ret
        exact ⟨by rw [← HV.out, orI, if_neg HX.out]; rfl, Below.refl _ _⟩
    | 1, hk, H0, H2 =>
      by_cases hy : y = 0
      · have b1 : (y != 0) = false := bne_eq_false_iff_eq.mpr hy
        have b2 : (y == 0) = true := beq_iff_eq.mpr hy
        have HY := Aside0.mk hy
        clear hy
        go_wp2
        go_roundw
        case rel => exact ⟨2, by omega, rfl, ⟨Or.inr (H0.out.resolve_left (by decide))⟩, ⟨fun _ => HY.out⟩, by first | trivial | rfl⟩
        case measure => simp [intOf]
      · have b1 : (y != 0) = true := bne_iff_ne.mpr hy
        have b2 : (y == 0) = false := beq_eq_false_iff_ne.mpr hy
        have HX := Aside0.mk (H0.out.resolve_left (by decide))
        clear hy
        go_wp2
        go_ret
        exact ⟨by rw [← HV.out, orI, if_pos HX.out]; rfl, Below.refl _ _⟩
    | 2, hk, H0, H2 =>
      have HX := Aside0.mk (H0.out.resolve_left (by decide))
      have HY := Aside0.mk (H2.out rfl)
      go_wp2
      go_ret
      exact ⟨by rw [← HV.out, orI, if_pos HX.out, HY.out]; rfl, Below.refl _ _⟩
    | k + 3, hk, H0, H2 => omega

/-! ### cmp_Compare_string: function 97 -/
def cmpString.f : Unit := ()
set_option maxHeartbeats 1000000 in
set_option maxRecDepth 100000 in
theorem cmpString.calls (a b : ByteArray) (w : World) : Calls Try.prog 97 #[.string a, .string b] w fun e w' => e = .returned (.int .i64 (cmpT a b)) ∧ Below w.heap.size w w' := by
  obtain ⟨v, hv⟩ : ∃ v, cmpT a b = v := ⟨_, rfl⟩
  rw [hv]
  have HV := Aside0.mk hv
  clear hv
  cases h1 : Op.bytesLess a.toList b.toList
  · cases h2 : (a.toList == b.toList)
    · have E := Aside0.mk (show cmpT a b = 1 by unfold cmpT; rw [h1, h2]; rfl)
      go_enter Try.func97, Try.ntmps97
      go_wp2
      go_ret
      exact ⟨by rw [← HV.out, E.out]; rfl, by repeat (first | exact Below.refl _ _ | apply below_alloc | apply pw_below_drewN)⟩
    · have E := Aside0.mk (show cmpT a b = 0 by unfold cmpT; rw [h1, h2]; rfl)
      go_enter Try.func97, Try.ntmps97
      go_wp2
      go_ret
      exact ⟨by rw [← HV.out, E.out]; rfl, by repeat (first | exact Below.refl _ _ | apply below_alloc | apply pw_below_drewN)⟩
  · have E := Aside0.mk (show cmpT a b = -1 by unfold cmpT; rw [h1]; rfl)
    go_enter Try.func97, Try.ntmps97
    go_wp2
    go_ret
    exact ⟨by rw [← HV.out, E.out]; rfl, by repeat (first | exact Below.refl _ _ | apply below_alloc | apply pw_below_drewN)⟩

/-! ### impl_cmpLabel: function 85 -/
def cmpLabel.f : Unit := ()
def lblA (x : Lbl) : Value := .agg #[.string x.f0, .string x.f1]
set_option maxHeartbeats 4000000 in
set_option maxRecDepth 100000 in
theorem cmpLabel.calls (x y : Lbl) (w : World) : Calls Try.prog 85 #[lblA x, lblA y] w fun e w' => e = .returned (.int .i64 (cmp1 x y)) ∧ Below w.heap.size w w' := by
  obtain ⟨a, b⟩ := x
  obtain ⟨c, d⟩ := y
  have hu := Try.underlying119
  have hu2 := Try.underlying115
  rw [cmp1_or]
  show Calls Try.prog 85 #[.agg #[.string a, .string b], .agg #[.string c, .string d]] w fun e w' => e = .returned (.int .i64 (orI (cmpT a c) (cmpT b d))) ∧ Below w.heap.size w w'
  have CT := Aside0.mk (fun x y w => cmpString.calls x y w)
  have CO := Aside0.mk (fun bk w h0 h1 => cmpOr.calls (cmpT a c) (cmpT b d) bk 2 w h0 h1)
  obtain ⟨r, hr⟩ : ∃ r, orI (cmpT a c) (cmpT b d) = r := ⟨_, rfl⟩
  rw [hr] at CO
  rw [hr]
  clear hr
  have KEEP : ∀ W w' : World, (W.cell? ⟨w.heap.size, 0, none⟩ = some (.string a) ∧ W.cell? ⟨w.heap.size, 1, none⟩ = some (.string b) ∧ W.cell? ⟨w.heap.size + 1, 0, none⟩ = some (.string c) ∧ W.cell? ⟨w.heap.size + 1, 1, none⟩ = some (.string d) ∧ Below w.heap.size w W) → Below W.heap.size W w' →
      (w'.cell? ⟨w.heap.size, 0, none⟩ = some (.string a) ∧ w'.cell? ⟨w.heap.size, 1, none⟩ = some (.string b) ∧ w'.cell? ⟨w.heap.size + 1, 0, none⟩ = some (.string c) ∧ w'.cell? ⟨w.heap.size + 1, 1, none⟩ = some (.string d) ∧ Below w.heap.size w w') :=
    fun W w' ⟨a0, a1, a2, a3, hB⟩ hb => ⟨(hb.cell (World.block_lt_of_cell? W _ a0)).trans a0, (hb.cell (World.block_lt_of_cell? W _ a1)).trans a1, (hb.cell (World.block_lt_of_cell? W _ a2)).trans a2, (hb.cell (World.block_lt_of_cell? W _ a3)).trans a3, below_step hB hb⟩
  have S0 : (((w.alloc (.cells #[.string a, .string b] 119)).alloc (.cells #[.string c, .string d] 119)).drew.cell? ⟨w.heap.size, 0, none⟩ = some (.string a) ∧ ((w.alloc (.cells #[.string a, .string b] 119)).alloc (.cells #[.string c, .string d] 119)).drew.cell? ⟨w.heap.size, 1, none⟩ = some (.string b) ∧ ((w.alloc (.cells #[.string a, .string b] 119)).alloc (.cells #[.string c, .string d] 119)).drew.cell? ⟨w.heap.size + 1, 0, none⟩ = some (.string c) ∧ ((w.alloc (.cells #[.string a, .string b] 119)).alloc (.cells #[.string c, .string d] 119)).drew.cell? ⟨w.heap.size + 1, 1, none⟩ = some (.string d) ∧ Below w.heap.size w ((w.alloc (.cells #[.string a, .string b] 119)).alloc (.cells #[.string c, .string d] 119)).drew) := by
    refine ⟨by go_simp, by go_simp, by go_simp, by go_simp, ?_⟩
    repeat (first | exact Below.refl _ _ | apply below_alloc | apply below_drew1)
  have HK := Aside0.mk KEEP
  have HS0 := Aside0.mk S0
  clear KEEP S0
  go_enter Try.func85, Try.ntmps85
  go_wp2_with fail
  go_region_held3 (fun W => W.cell? ⟨w.heap.size, 0, none⟩ = some (.string a) ∧ W.cell? ⟨w.heap.size, 1, none⟩ = some (.string b) ∧ W.cell? ⟨w.heap.size + 1, 0, none⟩ = some (.string c) ∧ W.cell? ⟨w.heap.size + 1, 1, none⟩ = some (.string d) ∧ Below w.heap.size w W)
    (first | exact HS0.out | exact HK.out _ _ (by assumption) (by assumption) | exact HK.out _ _ (by assumption) ((Below.refl _ _).alloc (Nat.le_refl _) _))
    (first | (go_at_call 97; refine (CT.out _ _ _).mono ?_; rintro e w' ⟨rfl, hb⟩) | (go_at_call 96; refine (CO.out _ _ (by go_simp) (by go_simp)).mono ?_; rintro e w' ⟨rfl, hb⟩))
  go_wp2
  go_ret
  exact ⟨rfl, by simp_all⟩

/-! ### impl_Label: function 84 -/
def compareLabels.f : Unit := ()
set_option maxHeartbeats 4000000 in
set_option maxRecDepth 100000 in
theorem compareLabels.calls (A0 : Option Addr) (c0 : Nat) (l0 : List Lbl) (A1 : Option Addr) (c1 : Nat) (l1 : List Lbl) (w : World) (hr0 : Kd.C k119 w A0 l0.length l0) (hr1 : Kd.C k119 w A1 l1.length l1) (hN0 : l0.length < 9223372036854775807) (hN1 : l1.length < 9223372036854775807) :
    Calls Try.prog 84 #[.slice A0 l0.length c0, .slice A1 l1.length c1, .func (.func 85) #[] #[]] w fun e w' => e = .returned (.int .i64 (cmpL l0 l1)) ∧ Below w.heap.size w w' := by
  obtain ⟨r, hr⟩ : ∃ r, cmpL l0 l1 = r := ⟨_, rfl⟩
  rw [hr]
  have HR := Aside0.mk hr
  have HR0 := Aside0.mk hr0
  have HR1 := Aside0.mk hr1
  have hu := Try.underlying119
  clear hr hr0 hr1
  go_enter Try.func84, Try.ntmps84
  go_wp2
  go_loopw [13] (fun v wr => ∃ k : Nat, k ≤ l0.length ∧ v = .int .i64 k ∧ Aside0 (r = cmpL (l0.drop k) (l1.drop k)) ∧ Aside0 (Below w.heap.size w wr)) (fun v _ => l0.length - (intOf v).toNat)
  case atStart => exact ⟨0, Nat.zero_le _, rfl, ⟨by rw [List.drop_zero, List.drop_zero]; exact HR.out.symm⟩, ⟨Below.refl _ _⟩⟩
  case round =>
    clear HR
    obtain ⟨k, hk, rfl, HA, HD⟩ := hrel
    by_cases hlt : k < l0.length
    · have c0b : decide ((k : Int) < (l0.length : Int)) = true := decide_eq_true (by omega)
      obtain ⟨ad, e, hx0, hx1⟩ := at_T119 HR0.out (k : Int) (by omega) (by omega)
      cases e
      have e1 : (k : Int).toNat = k := by omega
      have e2 : ∀ l, rd_T119 l (k : Int) = l.getD k z119 := fun l => by unfold rd_T119; rw [e1]
      rw [e1, e2] at hx0 hx1
      replace hx0 := (HD.out.cell (World.block_lt_of_cell? w _ hx0)).trans hx0
      replace hx1 := (HD.out.cell (World.block_lt_of_cell? w _ hx1)).trans hx1
      have p : (0 ≤ (k : Int)) = True := eq_true (by omega)
      have q : ((k : Int) < (l0.length : Int)) = True := eq_true (by omega)
      by_cases hlt1 : k < l1.length
      · have c1b : decide ((l1.length : Int) ≤ (k : Int)) = false := decide_eq_false (by omega)
        have c1c : decide (l1.length ≤ k) = false := decide_eq_false (by omega)
        obtain ⟨ad2, e, hy0, hy1⟩ := at_T119 HR1.out (k : Int) (by omega) (by omega)
        cases e
        rw [e1, e2] at hy0 hy1
        replace hy0 := (HD.out.cell (World.block_lt_of_cell? w _ hy0)).trans hy0
        replace hy1 := (HD.out.cell (World.block_lt_of_cell? w _ hy1)).trans hy1
        have q2 : ((k : Int) < (l1.length : Int)) = True := eq_true (by omega)
        have E := Aside0.mk (cmpL_step l0 l1 z119 k hlt hlt1)
        obtain ⟨x, hx⟩ : ∃ x, l0.getD k z119 = x := ⟨_, rfl⟩
        obtain ⟨y, hy⟩ : ∃ x, l1.getD k z119 = x := ⟨_, rfl⟩
        rw [hx] at hx0 hx1 E
        rw [hy] at hy0 hy1 E
        clear hx hy e1 e2
        have hz0 : ∀ o, (wr.alloc o).cell? (ad2.add (k * 2)) = some (.string y.f0) := fun o => (Below.cell ((Below.refl _ wr).alloc (Nat.le_refl _) o) (World.block_lt_of_cell? wr _ hy0)).trans hy0
        have hz1 := fun o => (Below.cell ((Below.refl _ wr).alloc (Nat.le_refl _) o) (World.block_lt_of_cell? wr _ hy1)).trans hy1
        have CALL := Aside0.mk (fun W => cmpLabel.calls x y W)
        unfold lblA at CALL
        clear hy0 hy1
        obtain ⟨c, hc⟩ : ∃ c, cmp1 x y = c := ⟨_, rfl⟩
        rw [hc] at CALL E
        obtain ⟨xa, xb⟩ := x
        obtain ⟨ya, yb⟩ := y
        clear hc
        by_cases h0 : c = 0
        · have b1 : (c != 0) = false := bne_eq_false_iff_eq.mpr h0
          have b2 : (c == 0) = true := beq_iff_eq.mpr h0
          have H0 := Aside0.mk h0
          clear h0
          go_wp2_with (go_at_call 85; refine (CALL.out _).mono ?_; rintro e w' ⟨rfl, hb⟩; have HB := Aside0.mk (below_step (by repeat (first | exact HD.out | apply below_alloc)) hb); clear hb)
          go_roundw
          case rel => exact ⟨k + 1, by omega, by go_num, ⟨by rw [HA.out, E.out, if_pos H0.out]⟩, ⟨HB.out⟩⟩
          case measure => simp [intOf]; omega
        · have b1 : (c != 0) = true := bne_iff_ne.mpr h0
          have b2 : (c == 0) = false := beq_eq_false_iff_ne.mpr h0
          have H0 := Aside0.mk h0
          clear h0
          go_wp2_with (go_at_call 85; refine (CALL.out _).mono ?_; rintro e w' ⟨rfl, hb⟩; have HB := Aside0.mk (below_step (by repeat (first | exact HD.out | apply below_alloc)) hb); clear hb)
          go_ret
          exact ⟨by rw [HA.out, E.out, if_neg H0.out]; rfl, HB.out⟩
      · have c1b : decide ((l1.length : Int) ≤ (k : Int)) = true := decide_eq_true (by omega)
        have c1c : decide (l1.length ≤ k) = true := decide_eq_true (by omega)
        have E := Aside0.mk (cmpL_more l0 l1 k hlt hlt1)
        clear e1 e2
        go_wp2
        go_ret
        exact ⟨by rw [HA.out, E.out]; rfl, by repeat (first | exact HD.out | apply below_alloc)⟩
    · have c0b : decide ((k : Int) < (l0.length : Int)) = false := decide_eq_false (by omega)
      have ek : k = l0.length := by omega
      have E := Aside0.mk (cmpL_none l0 l1 k hlt)
      by_cases hlt1 : k < l1.length
      · have c1b : decide ((l0.length : Int) < (l1.length : Int)) = true := decide_eq_true (by omega)
        have c1c : decide (l0.length < l1.length) = true := decide_eq_true (by omega)
        have F := Aside0.mk (decide_eq_true hlt1)
        clear ek
        go_wp2
        go_ret
        exact ⟨by rw [HA.out, E.out, if_pos F.out]; rfl, HD.out⟩
      · have c1b : decide ((l0.length : Int) < (l1.length : Int)) = false := decide_eq_false (by omega)
        have c1c : decide (l0.length < l1.length) = false := decide_eq_false (by omega)
        have F := Aside0.mk (decide_eq_false hlt1)
        clear ek
        go_wp2
        go_ret
        exact ⟨by rw [HA.out, E.out, F.out]; rfl, HD.out⟩

/-! ### impl_cmpLabels: function 69 -/
def impl_cmpLabels.f (l0 l1 : List Lbl) : Option Int := if l0.length < 9223372036854775807 ∧ l1.length < 9223372036854775807 then some (cmpL l0 l1) else none
set_option maxHeartbeats 2000000 in
set_option maxRecDepth 100000 in
theorem impl_cmpLabels.calls (A0 : Option Addr) (c0 : Nat) (l0 : List Lbl) (A1 : Option Addr) (c1 : Nat) (l1 : List Lbl) (r : Int) (w : World) (hr0 : Kd.C k119 w A0 l0.length l0) (hc0 : l0.length ≤ c0) (hr1 : Kd.C k119 w A1 l1.length l1) (hc1 : l1.length ≤ c1) (h : impl_cmpLabels.f l0 l1 = some r) :
    Calls Try.prog 69 #[.slice A0 l0.length c0, .slice A1 l1.length c1] w fun e w' => e = .returned (.int .i64 r) ∧ Below w.heap.size w w' := by
  unfold impl_cmpLabels.f at h
  split at h
  case isFalse => cases h
  case isTrue hs =>
  have C := Aside0.mk (compareLabels.calls A0 c0 l0 A1 c1 l1 w hr0 hr1 hs.1 hs.2)
  rw [Option.some.inj h] at C
  obtain ⟨n0, hn0⟩ : ∃ n, l0.length = n := ⟨_, rfl⟩
  obtain ⟨n1, hn1⟩ : ∃ n, l1.length = n := ⟨_, rfl⟩
  rw [hn0, hn1] at C ⊢
  clear hr0 hr1 hc0 hc1 hs h hn0 hn1
  go_enter Try.func69, Try.ntmps69
  go_wp2_with (go_at_call 84; refine C.out.mono ?_; rintro e w' ⟨rfl, hb⟩)
  go_ret
  exact ⟨rfl, hb⟩

end Go.Proofs.Ytfipeogppcllnaa.QFnExactBlockOk
