-- Written by wip/tools/mk.py (this session's program, which runs the kit's print): functions, and proofs that the machine's calls do what they say.
import Derived.Test.YtipbllegjcedgaaQFnExactRowsOkx0
import Derived.Test.YtipbllegjcedgaaQFnExactRowsOkx2
namespace Go.Proofs.Ytipbllegjcedgaa.QFnExactRowsOk
open Go.RowKit Go.Proofs.YtipbllegjcedgaaW.PrintWords Go.Proofs.YtipbllegjcedgaaW.PrintLast Go.Proofs.YtipbllegjcedgaaW.PrintMore
attribute [local go_sem] IntKind.wrap_u8 max2_int min2_int max_two min_two max_three min_three max_four min_four   -- for this text's walks alone
set_option linter.unusedVariables false
set_option linter.unusedSimpArgs false

/-! ### impl_isWord: function 64 -/
def impl_isWord.f (a0 : ByteArray) : Option Bool := if a0.size < 9223372036854775807 then some (lettersB a0 8) else none
set_option maxHeartbeats 1000000 in
set_option maxRecDepth 100000 in
theorem impl_isWord.calls (a0 : ByteArray) (r : Bool) (w : World) (h : impl_isWord.f a0 = some r) :
    Calls Try.prog 64 #[.string a0] w fun e w' => e = .returned (.bool r) ∧ Drawn0 w w' := by
  unfold impl_isWord.f at h
  split at h
  case isFalse => cases h
  case isTrue hs =>
  have hr := Aside0.mk (Option.some.inj h).symm
  clear h
  have hc : ∀ w, Calls Try.prog 88 #[.string a0, .int .i64 8] w fun e w' => e = .returned (.bool (lettersB a0 8)) ∧ Drawn0 w w' := fun w => impl_isLetters.calls a0 8 _ w (by unfold impl_isLetters.f; rw [if_pos hs])
  have HC := Aside0.mk hc
  clear hc
  go_enter Try.func64, Try.ntmps64
  go_wp2_with (go_at_call 88; refine (HC.out _).mono ?_; rintro e w' ⟨rfl, ⟨nd, rfl⟩⟩)
  go_ret
  exact ⟨by rw [hr.out]; rfl, ⟨⟨_, rfl⟩⟩⟩

/-! ### impl_LabelsOk: function 38 -/
def impl_LabelsOk.f (l0 : List Lbl) : Option Bool := if bdL l0 = true then some (labelsB l0) else none
set_option maxHeartbeats 4000000 in
set_option maxRecDepth 100000 in
theorem impl_LabelsOk.calls (A0 : Option Addr) (c0 : Nat) (l0 : List Lbl) (r : Bool) (w : World) (hr0 : Kd.C k52 w A0 l0.length l0) (hc0 : l0.length ≤ c0) (h : impl_LabelsOk.f l0 = some r) :
    Calls Try.prog 38 #[.slice A0 l0.length c0] w fun e w' => e = .returned (.bool r) ∧ Below w.heap.size w w' := by
  unfold impl_LabelsOk.f at h
  split at h
  case isFalse => cases h
  case isTrue hs =>
  have hr := Aside0.mk (Option.some.inj h).symm
  clear h
  have hu := Try.underlying52
  have HR0 := Aside0.mk hr0
  have HC0 := Aside0.mk hc0
  have HS := Aside0.mk hs
  have hN := bdL_len hs
  clear hr0 hc0 hs
  go_enter Try.func38, Try.ntmps38
  go_wp2
  go_loopw [7] (fun v wr => ∃ k : Nat, k ≤ l0.length ∧ v = .int .i64 k ∧ Aside0 (r = (chainP lblR lblLt (prevG l0 z52 k) (l0.drop k) && decide (1 ≤ l0.length ∧ l0.length ≤ 4))) ∧ Aside0 (Below w.heap.size w wr)) (fun v _ => l0.length - (intOf v).toNat)
  case atStart => exact ⟨0, Nat.zero_le _, rfl, ⟨hr.out⟩, ⟨Below.refl _ _⟩⟩
  case round =>
    obtain ⟨k, hk, rfl, HA, HD⟩ := hrel
    by_cases hlt : k < l0.length
    · have c0b : decide ((k : Int) < (l0.length : Int)) = true := decide_eq_true (by omega)
      obtain ⟨ad, e, hx0, hx1⟩ := at_T52 HR0.out (k : Int) (by omega) (by omega)
      cases e
      have e1 : (k : Int).toNat = k := by omega
      have e2 : rd_T52 l0 (k : Int) = l0.getD k z52 := by unfold rd_T52; rw [e1]
      rw [e1, e2] at hx0 hx1
      replace hx0 := (HD.out.cell (World.block_lt_of_cell? w _ hx0)).trans hx0
      replace hx1 := (HD.out.cell (World.block_lt_of_cell? w _ hx1)).trans hx1
      have hmem : l0.getD k z52 ∈ l0 := by rw [getD_at hlt]; exact List.getElem_mem _
      have hb := bdL_at HS.out hmem
      have N1 := Aside0.mk (chainP_no1 lblR lblLt l0 z52 k hlt)
      have N2 := Aside0.mk (chainP_no2 lblR lblLt l0 z52 k hlt)
      have N3 := Aside0.mk (fun h0 : k = 0 => chainP_on0 lblR lblLt l0 z52 (by omega))
      have N4 := Aside0.mk (chainP_on lblR lblLt l0 z52 k hlt)
      clear e1 e2 hmem
      obtain ⟨x, hx⟩ : ∃ x, l0.getD k z52 = x := ⟨_, rfl⟩
      rw [hx] at hx0 hx1 hb N1 N2 N4
      have hR : lblR x = ((lettersB x.f0 6 && (x.f0.toList != [])) && lettersB x.f1 8 && (x.f1.toList != [])) := rfl
      have HX := Aside0.mk hx
      obtain ⟨nm, hnm⟩ : ∃ s, x.f0 = s := ⟨_, rfl⟩
      obtain ⟨wd, hwd⟩ : ∃ s, x.f1 = s := ⟨_, rfl⟩
      have HNM := Aside0.mk hnm
      rw [hnm, hwd] at hR hb
      rw [hnm] at hx0
      rw [hwd] at hx1
      have HRr := Aside0.mk hR
      clear hx hnm hwd hR
      have p : (0 ≤ (k : Int)) = True := eq_true (by omega)
      have q : ((k : Int) < (l0.length : Int)) = True := eq_true (by omega)
      have c1 : ∀ (b : Bool), (lettersB nm 6 && (nm.toList != [])) = b → ∀ w, Calls Try.prog 63 #[.string nm] w fun e w' => e = .returned (.bool b) ∧ Drawn0 w w' := fun b hb' w => impl_isName.calls nm b w (by unfold impl_isName.f; rw [if_pos hb.1, hb'])
      have c2 : ∀ (b : Bool), lettersB wd 8 = b → ∀ w, Calls Try.prog 64 #[.string wd] w fun e w' => e = .returned (.bool b) ∧ Drawn0 w w' := fun b hb' w => impl_isWord.calls wd b w (by unfold impl_isWord.f; rw [if_pos hb.2, hb'])
      clear hb
      cases b1 : (lettersB nm 6 && (nm.toList != []))
      · have C1 := Aside0.mk (c1 false b1)
        have B1 := Aside0.mk b1
        clear c1 c2 b1
        go_wp2_with fail
        go_quiet ((go_at_call 63; exact quiet_D (C1.out _)))
        go_wp2
        go_ret
        exact ⟨by rw [HA.out, N1.out (by rw [HRr.out, B1.out]; rfl)]; rfl, pw_below_drewN (HD.out.alloc (by first | exact HD.out.size | exact Nat.le_refl _) _) _⟩
      have C1 := Aside0.mk (c1 true b1)
      have B1 := Aside0.mk b1
      clear c1 b1
      cases b2 : lettersB wd 8
      · have C2 := Aside0.mk (c2 false b2)
        have B2 := Aside0.mk b2
        clear c2 b2
        go_wp2_with fail
        go_quiet ((first | (go_at_call 63; exact quiet_D (C1.out _)) | (go_at_call 64; exact quiet_D (C2.out _))))
        go_wp2
        go_ret
        exact ⟨by rw [HA.out, N1.out (by rw [HRr.out, B1.out, B2.out]; rfl)]; rfl, pw_below_drewN (HD.out.alloc (by first | exact HD.out.size | exact Nat.le_refl _) _) _⟩
      have C2 := Aside0.mk (c2 true b2)
      have B2 := Aside0.mk b2
      clear c2 b2
      by_cases b3 : wd.toList = ([] : List UInt8)
      · have b3a : (wd.toList == ([] : List UInt8)) = true := beq_iff_eq.mpr b3
        have B3 := Aside0.mk b3
        clear b3
        go_wp2_with fail
        go_quiet ((first | (go_at_call 63; exact quiet_D (C1.out _)) | (go_at_call 64; exact quiet_D (C2.out _))))
        go_wp2
        go_ret
        exact ⟨by rw [HA.out, N1.out (by rw [HRr.out, B1.out, B2.out, B3.out]; rfl)]; rfl, pw_below_drewN (HD.out.alloc (by first | exact HD.out.size | exact Nat.le_refl _) _) _⟩
      have b3a : (wd.toList == ([] : List UInt8)) = false := beq_eq_false_iff_ne.mpr b3
      have BR := Aside0.mk (show lblR x = true by rw [HRr.out, B1.out, B2.out]; simpa using b3)
      clear b3
      by_cases b4 : k = 0
      · have b4a : decide (0 < (k : Int)) = false := decide_eq_false (by omega)
        have b4n : decide (0 < k) = false := decide_eq_false (by omega)
        have B4 := Aside0.mk b4
        clear b4
        go_wp2_with fail
        go_quiet ((first | (go_at_call 63; exact quiet_D (C1.out _)) | (go_at_call 64; exact quiet_D (C2.out _))))
        go_wp2
        go_roundw
        case rel => exact ⟨k + 1, by omega, by go_num, ⟨by have e := N3.out B4.out (by rw [← B4.out, HX.out]; exact BR.out); rw [HA.out]; rw [B4.out]; rw [e]⟩, ⟨pw_below_drewN (HD.out.alloc (by first | exact HD.out.size | exact Nat.le_refl _) _) _⟩⟩
        case measure => simp [intOf]; omega
      obtain ⟨j, hj⟩ : ∃ j : Nat, k = j + 1 := ⟨k - 1, by omega⟩
      have b4a : decide (0 < (k : Int)) = true := decide_eq_true (by omega)
      have b4n : decide (0 < k) = true := decide_eq_true (by omega)
      have jw : IntKind.i64.wrap ((k : Int) - 1) = (j : Int) := by rw [IntWalk.i64_in _ (by omega)]; omega
      have p2 : (0 ≤ (j : Int)) = True := eq_true (by omega)
      have q2 : ((j : Int) < (l0.length : Int)) = True := eq_true (by omega)
      obtain ⟨ad2, e, hy0, hy1⟩ := at_T52 HR0.out (j : Int) (by omega) (by omega)
      obtain rfl : ad = ad2 := by injection e
      have e1 : (j : Int).toNat = j := by omega
      have e2 : rd_T52 l0 (j : Int) = l0.getD (k - 1) z52 := by unfold rd_T52; rw [e1, hj]; rfl
      rw [e1, e2] at hy0
      replace hy0 := (HD.out.cell (World.block_lt_of_cell? w _ hy0)).trans hy0
      clear e e1 e2 hy1 b4
      obtain ⟨y, hy⟩ : ∃ y, l0.getD (k - 1) z52 = y := ⟨_, rfl⟩
      rw [hy] at hy0 N2 N4
      have HY := Aside0.mk hy
      obtain ⟨pn, hpn⟩ : ∃ s, y.f0 = s := ⟨_, rfl⟩
      have HPN := Aside0.mk hpn
      rw [hpn] at hy0
      have hya : ∀ o, (wr.alloc o).cell? (ad.add (j * 2)) = some (.string pn) := fun o => (Below.cell ((Below.refl _ wr).alloc (Nat.le_refl _) o) (World.block_lt_of_cell? wr _ hy0)).trans hy0
      have HJ := Aside0.mk hj
      clear hy hpn hj
      have hl : lblLt y x = Op.bytesLess pn.toList nm.toList := by unfold lblLt; rw [HPN.out, HNM.out]
      have HL := Aside0.mk hl
      clear hl
      cases b5 : Op.bytesLess pn.toList nm.toList
      · have B5 := Aside0.mk b5
        go_wp2_with fail
        go_quiet ((first | (go_at_call 63; exact quiet_D (C1.out _)) | (go_at_call 64; exact quiet_D (C2.out _))))
        go_wp2
        go_ret
        exact ⟨by rw [HA.out, N2.out (by have := HJ.out; omega) (HL.out.trans B5.out)]; rfl, pw_below_drewN (HD.out.alloc (by first | exact HD.out.size | exact Nat.le_refl _) _) _⟩
      · have B5 := Aside0.mk b5
        go_wp2_with fail
        go_quiet ((first | (go_at_call 63; exact quiet_D (C1.out _)) | (go_at_call 64; exact quiet_D (C2.out _))))
        go_wp2
        go_roundw
        case rel => exact ⟨k + 1, by omega, by go_num, ⟨by rw [HA.out, N4.out (by have := HJ.out; omega) BR.out (HL.out.trans B5.out)]⟩, ⟨pw_below_drewN (HD.out.alloc (by first | exact HD.out.size | exact Nat.le_refl _) _) _⟩⟩
        case measure => simp [intOf]; omega
    · have c0b : decide ((k : Int) < (l0.length : Int)) = false := decide_eq_false (by omega)
      have HE := Aside0.mk (chainP_end lblR lblLt l0 (prevG l0 z52 k) k (by omega))
      by_cases c1 : 1 ≤ l0.length
      · have c1a : decide (1 ≤ (l0.length : Int)) = true := decide_eq_true (by omega)
        by_cases c2 : l0.length ≤ 4
        · have c2a : decide ((l0.length : Int) ≤ 4) = true := decide_eq_true (by omega)
          have C := Aside0.mk (decide_eq_true (show 1 ≤ l0.length ∧ l0.length ≤ 4 from ⟨c1, c2⟩))
          clear c1 c2
          go_wp2
          repeat (go_quiet (fail); try go_wp2)
          go_ret
          exact ⟨by rw [HA.out, HE.out, C.out]; rfl, HD.out⟩
        · have c2a : decide ((l0.length : Int) ≤ 4) = false := decide_eq_false (by omega)
          have C := Aside0.mk (decide_eq_false (show ¬ (1 ≤ l0.length ∧ l0.length ≤ 4) from fun h => c2 h.2))
          clear c1 c2
          go_wp2
          repeat (go_quiet (fail); try go_wp2)
          go_ret
          exact ⟨by rw [HA.out, HE.out, C.out]; rfl, HD.out⟩
      · have c1a : decide (1 ≤ (l0.length : Int)) = false := decide_eq_false (by omega)
        have C := Aside0.mk (decide_eq_false (show ¬ (1 ≤ l0.length ∧ l0.length ≤ 4) from fun h => c1 h.1))
        clear c1
        go_wp2
        repeat (go_quiet (fail); try go_wp2)
        go_ret
        exact ⟨by rw [HA.out, HE.out, C.out]; rfl, HD.out⟩

/-! ### cmp_Or_int: function 89 -/
def cmpOr.f : Unit := ()
set_option maxHeartbeats 1000000 in
set_option maxRecDepth 100000 in
theorem cmpOr.calls (x y : Int) (bk : Nat) (c : Nat) (w : World) (h0 : w.cell? ⟨bk, 0, none⟩ = some (.int .i64 x)) (h1 : w.cell? ⟨bk, 1, none⟩ = some (.int .i64 y)) : Calls Try.prog 89 #[.slice (some ⟨bk, 0, none⟩) 2 c] w fun e w' => e = .returned (.int .i64 (orI x y)) ∧ Below w.heap.size w w' := by
  obtain ⟨v, hv⟩ : ∃ v, orI x y = v := ⟨_, rfl⟩
  rw [hv]
  have HV := Aside0.mk hv
  clear hv
  go_enter Try.func89, Try.ntmps89
  go_wp2
  go_loopw [8] (fun v wr => ∃ k : Nat, k ≤ 2 ∧ v = .int .i64 k ∧ Aside0 (k = 0 ∨ x = 0) ∧ Aside0 (k = 2 → y = 0) ∧ wr = w) (fun v _ => 2 - (intOf v).toNat)
  case atStart => exact ⟨0, by omega, rfl, ⟨Or.inl rfl⟩, ⟨fun h => by cases h⟩, by first | trivial | rfl⟩
  case round =>
    obtain ⟨k, hk, rfl, H0, H2, rfl⟩ := hrel
    match k, hk, H0, H2 with
    | 0, hk, H0, H2 =>
      by_cases hx : x = 0
      · have b1 : (x != 0) = false := bne_eq_false_iff_eq.mpr hx
        have b2 : (x == 0) = true := beq_iff_eq.mpr hx
        have HX := Aside0.mk hx
        clear hx
        go_wp2
        go_roundw
        case rel => exact ⟨1, by omega, rfl, ⟨Or.inr HX.out⟩, ⟨fun h => by cases h⟩, by first | trivial | rfl⟩
        case measure => simp [intOf]
      · have b1 : (x != 0) = true := bne_iff_ne.mpr hx
        have b2 : (x == 0) = false := beq_eq_false_iff_ne.mpr hx
        have HX := Aside0.mk hx
        clear hx
        go_wp2
        go_ret
        exact ⟨by rw [← HV.out, orI, if_neg HX.out]; rfl, Below.refl _ _⟩
    | 1, hk, H0, H2 =>
      by_cases hy : y = 0
      · have b1 : (y != 0) = false := bne_eq_false_iff_eq.mpr hy
        have b2 : (y == 0) = true := beq_iff_eq.mpr hy
        have HY := Aside0.mk hy
        clear hy
        go_wp2
        go_roundw
        case rel => exact ⟨2, by omega, rfl, ⟨Or.inr (H0.out.resolve_left (by decide))⟩, ⟨fun _ => HY.out⟩, by first | trivial | rfl⟩
        case measure => simp [intOf]
      · have b1 : (y != 0) = true := bne_iff_ne.mpr hy
        have b2 : (y == 0) = false := beq_eq_false_iff_ne.mpr hy
        have HX := Aside0.mk (H0.out.resolve_left (by decide))
        clear hy
        go_wp2
        go_ret
        exact ⟨by rw [← HV.out, orI, if_pos HX.out]; rfl, Below.refl _ _⟩
    | 2, hk, H0, H2 =>
      have HX := Aside0.mk (H0.out.resolve_left (by decide))
      have HY := Aside0.mk (H2.out rfl)
      go_wp2
      go_ret
      exact ⟨by rw [← HV.out, orI, if_pos HX.out, HY.out]; rfl, Below.refl _ _⟩
    | k + 3, hk, H0, H2 => omega

/-! ### cmp_Compare_string: function 90 -/
def cmpString.f : Unit := ()
set_option maxHeartbeats 1000000 in
set_option maxRecDepth 100000 in
theorem cmpString.calls (a b : ByteArray) (w : World) : Calls Try.prog 90 #[.string a, .string b] w fun e w' => e = .returned (.int .i64 (cmpT a b)) ∧ Below w.heap.size w w' := by
  obtain ⟨v, hv⟩ : ∃ v, cmpT a b = v := ⟨_, rfl⟩
  rw [hv]
  have HV := Aside0.mk hv
  clear hv
  cases h1 : Op.bytesLess a.toList b.toList
  · cases h2 : (a.toList == b.toList)
    · have E := Aside0.mk (show cmpT a b = 1 by unfold cmpT; rw [h1, h2]; rfl)
      go_enter Try.func90, Try.ntmps90
      go_wp2
      go_ret
      exact ⟨by rw [← HV.out, E.out]; rfl, by repeat (first | exact Below.refl _ _ | apply below_alloc | apply pw_below_drewN)⟩
    · have E := Aside0.mk (show cmpT a b = 0 by unfold cmpT; rw [h1, h2]; rfl)
      go_enter Try.func90, Try.ntmps90
      go_wp2
      go_ret
      exact ⟨by rw [← HV.out, E.out]; rfl, by repeat (first | exact Below.refl _ _ | apply below_alloc | apply pw_below_drewN)⟩
  · have E := Aside0.mk (show cmpT a b = -1 by unfold cmpT; rw [h1]; rfl)
    go_enter Try.func90, Try.ntmps90
    go_wp2
    go_ret
    exact ⟨by rw [← HV.out, E.out]; rfl, by repeat (first | exact Below.refl _ _ | apply below_alloc | apply pw_below_drewN)⟩

/-! ### impl_cmpLabel: function 66 -/
def cmpLabel.f : Unit := ()
def lblA (x : Lbl) : Value := .agg #[.string x.f0, .string x.f1]
set_option maxHeartbeats 4000000 in
set_option maxRecDepth 100000 in
theorem cmpLabel.calls (x y : Lbl) (w : World) : Calls Try.prog 66 #[lblA x, lblA y] w fun e w' => e = .returned (.int .i64 (cmp1 x y)) ∧ Below w.heap.size w w' := by
  obtain ⟨a, b⟩ := x
  obtain ⟨c, d⟩ := y
  have hu := Try.underlying52
  have hu2 := Try.underlying49
  rw [cmp1_or]
  show Calls Try.prog 66 #[.agg #[.string a, .string b], .agg #[.string c, .string d]] w fun e w' => e = .returned (.int .i64 (orI (cmpT a c) (cmpT b d))) ∧ Below w.heap.size w w'
  have CT := Aside0.mk (fun x y w => cmpString.calls x y w)
  have CO := Aside0.mk (fun bk w h0 h1 => cmpOr.calls (cmpT a c) (cmpT b d) bk 2 w h0 h1)
  obtain ⟨r, hr⟩ : ∃ r, orI (cmpT a c) (cmpT b d) = r := ⟨_, rfl⟩
  rw [hr] at CO
  rw [hr]
  clear hr
  have KEEP : ∀ W w' : World, (W.cell? ⟨w.heap.size, 0, none⟩ = some (.string a) ∧ W.cell? ⟨w.heap.size, 1, none⟩ = some (.string b) ∧ W.cell? ⟨w.heap.size + 1, 0, none⟩ = some (.string c) ∧ W.cell? ⟨w.heap.size + 1, 1, none⟩ = some (.string d) ∧ Below w.heap.size w W) → Below W.heap.size W w' →
      (w'.cell? ⟨w.heap.size, 0, none⟩ = some (.string a) ∧ w'.cell? ⟨w.heap.size, 1, none⟩ = some (.string b) ∧ w'.cell? ⟨w.heap.size + 1, 0, none⟩ = some (.string c) ∧ w'.cell? ⟨w.heap.size + 1, 1, none⟩ = some (.string d) ∧ Below w.heap.size w w') :=
    fun W w' ⟨a0, a1, a2, a3, hB⟩ hb => ⟨(hb.cell (World.block_lt_of_cell? W _ a0)).trans a0, (hb.cell (World.block_lt_of_cell? W _ a1)).trans a1, (hb.cell (World.block_lt_of_cell? W _ a2)).trans a2, (hb.cell (World.block_lt_of_cell? W _ a3)).trans a3, below_step hB hb⟩
  have S0 : (((w.alloc (.cells #[.string a, .string b] 52)).alloc (.cells #[.string c, .string d] 52)).drew.cell? ⟨w.heap.size, 0, none⟩ = some (.string a) ∧ ((w.alloc (.cells #[.string a, .string b] 52)).alloc (.cells #[.string c, .string d] 52)).drew.cell? ⟨w.heap.size, 1, none⟩ = some (.string b) ∧ ((w.alloc (.cells #[.string a, .string b] 52)).alloc (.cells #[.string c, .string d] 52)).drew.cell? ⟨w.heap.size + 1, 0, none⟩ = some (.string c) ∧ ((w.alloc (.cells #[.string a, .string b] 52)).alloc (.cells #[.string c, .string d] 52)).drew.cell? ⟨w.heap.size + 1, 1, none⟩ = some (.string d) ∧ Below w.heap.size w ((w.alloc (.cells #[.string a, .string b] 52)).alloc (.cells #[.string c, .string d] 52)).drew) := by
    refine ⟨by go_simp, by go_simp, by go_simp, by go_simp, ?_⟩
    repeat (first | exact Below.refl _ _ | apply below_alloc | apply below_drew1)
  have HK := Aside0.mk KEEP
  have HS0 := Aside0.mk S0
  clear KEEP S0
  go_enter Try.func66, Try.ntmps66
  go_wp2_with fail
  go_region_held3 (fun W => W.cell? ⟨w.heap.size, 0, none⟩ = some (.string a) ∧ W.cell? ⟨w.heap.size, 1, none⟩ = some (.string b) ∧ W.cell? ⟨w.heap.size + 1, 0, none⟩ = some (.string c) ∧ W.cell? ⟨w.heap.size + 1, 1, none⟩ = some (.string d) ∧ Below w.heap.size w W)
    (first | exact HS0.out | exact HK.out _ _ (by assumption) (by assumption) | exact HK.out _ _ (by assumption) ((Below.refl _ _).alloc (Nat.le_refl _) _))
    (first | (go_at_call 90; refine (CT.out _ _ _).mono ?_; rintro e w' ⟨rfl, hb⟩) | (go_at_call 89; refine (CO.out _ _ (by go_simp) (by go_simp)).mono ?_; rintro e w' ⟨rfl, hb⟩))
  go_wp2
  go_ret
  exact ⟨rfl, by simp_all⟩

/-! ### impl_Label: function 65 -/
def compareLabels.f : Unit := ()
set_option maxHeartbeats 4000000 in
set_option maxRecDepth 100000 in
theorem compareLabels.calls (A0 : Option Addr) (c0 : Nat) (l0 : List Lbl) (A1 : Option Addr) (c1 : Nat) (l1 : List Lbl) (w : World) (hr0 : Kd.C k52 w A0 l0.length l0) (hr1 : Kd.C k52 w A1 l1.length l1) (hN0 : l0.length < 9223372036854775807) (hN1 : l1.length < 9223372036854775807) :
    Calls Try.prog 65 #[.slice A0 l0.length c0, .slice A1 l1.length c1, .func (.func 66) #[] #[]] w fun e w' => e = .returned (.int .i64 (cmpL l0 l1)) ∧ Below w.heap.size w w' := by
  obtain ⟨r, hr⟩ : ∃ r, cmpL l0 l1 = r := ⟨_, rfl⟩
  rw [hr]
  have HR := Aside0.mk hr
  have HR0 := Aside0.mk hr0
  have HR1 := Aside0.mk hr1
  have hu := Try.underlying52
  clear hr hr0 hr1
  go_enter Try.func65, Try.ntmps65
  go_wp2
  go_loopw [13] (fun v wr => ∃ k : Nat, k ≤ l0.length ∧ v = .int .i64 k ∧ Aside0 (r = cmpL (l0.drop k) (l1.drop k)) ∧ Aside0 (Below w.heap.size w wr)) (fun v _ => l0.length - (intOf v).toNat)
  case atStart => exact ⟨0, Nat.zero_le _, rfl, ⟨by rw [List.drop_zero, List.drop_zero]; exact HR.out.symm⟩, ⟨Below.refl _ _⟩⟩
  case round =>
    clear HR
    obtain ⟨k, hk, rfl, HA, HD⟩ := hrel
    by_cases hlt : k < l0.length
    · have c0b : decide ((k : Int) < (l0.length : Int)) = true := decide_eq_true (by omega)
      obtain ⟨ad, e, hx0, hx1⟩ := at_T52 HR0.out (k : Int) (by omega) (by omega)
      cases e
      have e1 : (k : Int).toNat = k := by omega
      have e2 : ∀ l, rd_T52 l (k : Int) = l.getD k z52 := fun l => by unfold rd_T52; rw [e1]
      rw [e1, e2] at hx0 hx1
      replace hx0 := (HD.out.cell (World.block_lt_of_cell? w _ hx0)).trans hx0
      replace hx1 := (HD.out.cell (World.block_lt_of_cell? w _ hx1)).trans hx1
      have p : (0 ≤ (k : Int)) = True := eq_true (by omega)
      have q : ((k : Int) < (l0.length : Int)) = True := eq_true (by omega)
      by_cases hlt1 : k < l1.length
      · have c1b : decide ((l1.length : Int) ≤ (k : Int)) = false := decide_eq_false (by omega)
        have c1c : decide (l1.length ≤ k) = false := decide_eq_false (by omega)
        obtain ⟨ad2, e, hy0, hy1⟩ := at_T52 HR1.out (k : Int) (by omega) (by omega)
        cases e
        rw [e1, e2] at hy0 hy1
        replace hy0 := (HD.out.cell (World.block_lt_of_cell? w _ hy0)).trans hy0
        replace hy1 := (HD.out.cell (World.block_lt_of_cell? w _ hy1)).trans hy1
        have q2 : ((k : Int) < (l1.length : Int)) = True := eq_true (by omega)
        have E := Aside0.mk (cmpL_step l0 l1 z52 k hlt hlt1)
        obtain ⟨x, hx⟩ : ∃ x, l0.getD k z52 = x := ⟨_, rfl⟩
        obtain ⟨y, hy⟩ : ∃ x, l1.getD k z52 = x := ⟨_, rfl⟩
        rw [hx] at hx0 hx1 E
        rw [hy] at hy0 hy1 E
        clear hx hy e1 e2
        have hz0 : ∀ o, (wr.alloc o).cell? (ad2.add (k * 2)) = some (.string y.f0) := fun o => (Below.cell ((Below.refl _ wr).alloc (Nat.le_refl _) o) (World.block_lt_of_cell? wr _ hy0)).trans hy0
        have hz1 := fun o => (Below.cell ((Below.refl _ wr).alloc (Nat.le_refl _) o) (World.block_lt_of_cell? wr _ hy1)).trans hy1
        have CALL := Aside0.mk (fun W => cmpLabel.calls x y W)
        unfold lblA at CALL
        clear hy0 hy1
        obtain ⟨c, hc⟩ : ∃ c, cmp1 x y = c := ⟨_, rfl⟩
        rw [hc] at CALL E
        obtain ⟨xa, xb⟩ := x
        obtain ⟨ya, yb⟩ := y
        clear hc
        by_cases h0 : c = 0
        · have b1 : (c != 0) = false := bne_eq_false_iff_eq.mpr h0
          have b2 : (c == 0) = true := beq_iff_eq.mpr h0
          have H0 := Aside0.mk h0
          clear h0
          go_wp2_with (go_at_call 66; refine (CALL.out _).mono ?_; rintro e w' ⟨rfl, hb⟩; have HB := Aside0.mk (below_step (by repeat (first | exact HD.out | apply below_alloc)) hb); clear hb)
          go_roundw
          case rel => exact ⟨k + 1, by omega, by go_num, ⟨by rw [HA.out, E.out, if_pos H0.out]⟩, ⟨HB.out⟩⟩
          case measure => simp [intOf]; omega
        · have b1 : (c != 0) = true := bne_iff_ne.mpr h0
          have b2 : (c == 0) = false := beq_eq_false_iff_ne.mpr h0
          have H0 := Aside0.mk h0
          clear h0
          go_wp2_with (go_at_call 66; refine (CALL.out _).mono ?_; rintro e w' ⟨rfl, hb⟩; have HB := Aside0.mk (below_step (by repeat (first | exact HD.out | apply below_alloc)) hb); clear hb)
          go_ret
          exact ⟨by rw [HA.out, E.out, if_neg H0.out]; rfl, HB.out⟩
      · have c1b : decide ((l1.length : Int) ≤ (k : Int)) = true := decide_eq_true (by omega)
        have c1c : decide (l1.length ≤ k) = true := decide_eq_true (by omega)
        have E := Aside0.mk (cmpL_more l0 l1 k hlt hlt1)
        clear e1 e2
        go_wp2
        go_ret
        exact ⟨by rw [HA.out, E.out]; rfl, by repeat (first | exact HD.out | apply below_alloc)⟩
    · have c0b : decide ((k : Int) < (l0.length : Int)) = false := decide_eq_false (by omega)
      have ek : k = l0.length := by omega
      have E := Aside0.mk (cmpL_none l0 l1 k hlt)
      by_cases hlt1 : k < l1.length
      · have c1b : decide ((l0.length : Int) < (l1.length : Int)) = true := decide_eq_true (by omega)
        have c1c : decide (l0.length < l1.length) = true := decide_eq_true (by omega)
        have F := Aside0.mk (decide_eq_true hlt1)
        clear ek
        go_wp2
        go_ret
        exact ⟨by rw [HA.out, E.out, if_pos F.out]; rfl, HD.out⟩
      · have c1b : decide ((l0.length : Int) < (l1.length : Int)) = false := decide_eq_false (by omega)
        have c1c : decide (l0.length < l1.length) = false := decide_eq_false (by omega)
        have F := Aside0.mk (decide_eq_false hlt1)
        clear ek
        go_wp2
        go_ret
        exact ⟨by rw [HA.out, E.out, F.out]; rfl, HD.out⟩

/-! ### impl_cmpLabels: function 39 -/
def impl_cmpLabels.f (l0 l1 : List Lbl) : Option Int := if l0.length < 9223372036854775807 ∧ l1.length < 9223372036854775807 then some (cmpL l0 l1) else none
set_option maxHeartbeats 2000000 in
set_option maxRecDepth 100000 in
theorem impl_cmpLabels.calls (A0 : Option Addr) (c0 : Nat) (l0 : List Lbl) (A1 : Option Addr) (c1 : Nat) (l1 : List Lbl) (r : Int) (w : World) (hr0 : Kd.C k52 w A0 l0.length l0) (hc0 : l0.length ≤ c0) (hr1 : Kd.C k52 w A1 l1.length l1) (hc1 : l1.length ≤ c1) (h : impl_cmpLabels.f l0 l1 = some r) :
    Calls Try.prog 39 #[.slice A0 l0.length c0, .slice A1 l1.length c1] w fun e w' => e = .returned (.int .i64 r) ∧ Below w.heap.size w w' := by
  unfold impl_cmpLabels.f at h
  split at h
  case isFalse => cases h
  case isTrue hs =>
  have C := Aside0.mk (compareLabels.calls A0 c0 l0 A1 c1 l1 w hr0 hr1 hs.1 hs.2)
  rw [Option.some.inj h] at C
  obtain ⟨n0, hn0⟩ : ∃ n, l0.length = n := ⟨_, rfl⟩
  obtain ⟨n1, hn1⟩ : ∃ n, l1.length = n := ⟨_, rfl⟩
  rw [hn0, hn1] at C ⊢
  clear hr0 hr1 hc0 hc1 hs h hn0 hn1
  go_enter Try.func39, Try.ntmps39
  go_wp2_with (go_at_call 65; refine C.out.mono ?_; rintro e w' ⟨rfl, hb⟩)
  go_ret
  exact ⟨rfl, hb⟩

/-! ### impl_isTime: function 85 -/
def impl_isTime.f (a0 : Int) : Option (Bool) := if a0 ≥ 0 then (some (decide (a0 ≤ 9999))) else (some false)
set_option maxHeartbeats 8000000 in
set_option maxRecDepth 100000 in
theorem impl_isTime.calls (a0 : Int) (r : Bool) (w : World) (h : impl_isTime.f a0 = some r) :
    Calls Try.prog 85 #[.int .i64 a0] w fun e w' => e = .returned (.bool r) ∧ Drawn0 w w' := by
  have H : (if a0 ≥ 0 then (some (decide (a0 ≤ 9999))) else (some false)) = some r := h
  clear h
  by_cases c2 : a0 ≥ 0
  · rw [if_pos c2] at H
    have c2b0 : decide (0 ≤ a0) = true := decide_eq_true c2
    clear c2
    obtain rfl := Option.some.inj H
    go_enter Try.func85, Try.ntmps85
    go_wp2
    go_ret
    exact ⟨by first | rfl | (simp; done) | (simp [*]; done) | (simp only [my_ne_nil]; rfl), by repeat (first | exact Drawn0.refl _ | apply Drawn0.step)⟩
  · rw [if_neg c2] at H
    have c2b0 : decide (0 ≤ a0) = false := decide_eq_false c2
    clear c2
    obtain rfl := Option.some.inj H
    go_enter Try.func85, Try.ntmps85
    go_wp2
    go_ret
    exact ⟨by first | rfl | (simp; done) | (simp [*]; done) | (simp only [my_ne_nil]; rfl), by repeat (first | exact Drawn0.refl _ | apply Drawn0.step)⟩

/-! ### impl_isValue: function 86 -/
def impl_isValue.f (a0 : Int) : Option (Bool) := if a0 ≥ 0 then (some (decide (a0 ≤ 2147483647))) else (some false)
set_option maxHeartbeats 8000000 in
set_option maxRecDepth 100000 in
theorem impl_isValue.calls (a0 : Int) (r : Bool) (w : World) (h : impl_isValue.f a0 = some r) :
    Calls Try.prog 86 #[.int .i64 a0] w fun e w' => e = .returned (.bool r) ∧ Drawn0 w w' := by
  have H : (if a0 ≥ 0 then (some (decide (a0 ≤ 2147483647))) else (some false)) = some r := h
  clear h
  by_cases c2 : a0 ≥ 0
  · rw [if_pos c2] at H
    have c2b0 : decide (0 ≤ a0) = true := decide_eq_true c2
    clear c2
    obtain rfl := Option.some.inj H
    go_enter Try.func86, Try.ntmps86
    go_wp2
    go_ret
    exact ⟨by first | rfl | (simp; done) | (simp [*]; done) | (simp only [my_ne_nil]; rfl), by repeat (first | exact Drawn0.refl _ | apply Drawn0.step)⟩
  · rw [if_neg c2] at H
    have c2b0 : decide (0 ≤ a0) = false := decide_eq_false c2
    clear c2
    obtain rfl := Option.some.inj H
    go_enter Try.func86, Try.ntmps86
    go_wp2
    go_ret
    exact ⟨by first | rfl | (simp; done) | (simp [*]; done) | (simp only [my_ne_nil]; rfl), by repeat (first | exact Drawn0.refl _ | apply Drawn0.step)⟩

/-! ### impl_SamplesOk: function 60 -/
def impl_SamplesOk.l0 : Nat → List (S117) → List (S117) → Int → Int → Option (Bool)
  | 0, _, _, _, _ => none
  | k + 1, x0, x5, x6, x7 => if x7 < x6 then (if 0 ≤ x7 then (if x7 < (x5.length : Int) then ((impl_isTime.f ((rd_T117 x5 x7).f0)).bind fun t151 => (if t151 = true then ((impl_isValue.f ((rd_T117 x5 x7).f1)).bind fun t152 => (if t152 = true then (if x7 > 0 then (if 0 ≤ (wrap64 (x7 - 1)) then (if (wrap64 (x7 - 1)) < (x0.length : Int) then (if ((rd_T117 x0 (wrap64 (x7 - 1))).f0) ≥ ((rd_T117 x5 x7).f0) then (some false) else (impl_SamplesOk.l0 k x0 x5 x6 (wrap64 (x7 + 1)))) else (none)) else (none)) else (impl_SamplesOk.l0 k x0 x5 x6 (wrap64 (x7 + 1)))) else (some false))) else (some false))) else (none)) else (none)) else (some true)
def impl_SamplesOk.f (k : Nat) (l0 : List (S117)) : Option (Bool) := impl_SamplesOk.l0 k l0 l0 (l0.length : Int) 0
theorem impl_SamplesOk.mono_l : ∀ k, (∀ y0 y1 y2 y3, LeO (impl_SamplesOk.l0 k y0 y1 y2 y3) (impl_SamplesOk.l0 (k + 1) y0 y1 y2 y3))
  | 0 => fun _ _ _ _ r h => by simp [impl_SamplesOk.l0] at h
  | k + 1 => by
    have ih0 := impl_SamplesOk.mono_l k
    · intro y0 y1 y2 y3
      unfold impl_SamplesOk.l0
      repeat' first
      | (with_reducible exact ih0 _ _ _ _)
      | (with_reducible exact LeO.refl _)
      | (with_reducible exact LeO.none _)
      | (with_reducible refine LeO.ite ?_ ?_)
      | (with_reducible refine LeO.bind ?_ (fun _ => ?_))
      | exact ih0 _ _ _ _
      | exact LeO.none _
      | refine LeO.ite ?_ ?_
      | refine LeO.bind ?_ (fun _ => ?_)
theorem impl_SamplesOk.mono : ∀ a0 k, LeO (impl_SamplesOk.f k a0) (impl_SamplesOk.f (k + 1) a0) := by
  intro a0 k
  have ih0 := impl_SamplesOk.mono_l k
  unfold impl_SamplesOk.f
  repeat' first
      | (with_reducible exact ih0 _ _ _ _)
      | (with_reducible exact LeO.refl _)
      | (with_reducible exact LeO.none _)
      | (with_reducible refine LeO.ite ?_ ?_)
      | (with_reducible refine LeO.bind ?_ (fun _ => ?_))
      | exact ih0 _ _ _ _
      | exact LeO.none _
      | refine LeO.ite ?_ ?_
      | refine LeO.bind ?_ (fun _ => ?_)
set_option maxHeartbeats 8000000 in
set_option maxRecDepth 100000 in
theorem impl_SamplesOk.calls (k : Nat) (A0 : Option Addr) (c0 : Nat) (l0 : List (S117)) (r : Bool) (w : World) (hr0 : Kd.C k117 w A0 l0.length l0) (hc0 : l0.length ≤ c0) (h : impl_SamplesOk.f k l0 = some r) :
    Calls Try.prog 60 #[.slice A0 l0.length c0] w fun e w' => e = .returned (.bool r) ∧ Below w.heap.size w w' := by
  have hu117 := Try.underlying117
  have HR0 := Aside0.mk hr0
  have HC0 := Aside0.mk hc0
  clear hr0 hc0
  have HB := Aside0.mk (Below.refl w.heap.size w)
  have H : (impl_SamplesOk.l0 k l0 l0 (l0.length : Int) 0) = some r := h
  clear h
  have H' := Aside0.mk H
  clear H
  go_enter Try.func60, Try.ntmps60
  go_wp2
  repeat (go_quiet (fail); try go_wp2)
  go_loopg [7] k (fun kq v7 w' => ∃ (x7_1 : Int), v7 = .int .i64 x7_1 ∧ Aside0 (impl_SamplesOk.l0 kq l0 l0 (l0.length : Int) x7_1 = some r) ∧ Aside0 (kq ≤ k) ∧ Aside0 (Below w.heap.size w w'))
  case atStart => exact ⟨(0), (by first | rfl | (simp; done) | (simp [*]; done) | (simp only [my_ne_nil]; rfl)), H', ⟨Nat.le_refl _⟩, ⟨by repeat (first | (with_reducible first | exact HB.out | apply below_alloc | apply pw_below_drewN | apply below_drew1) | exact HB.out)⟩⟩
  case round =>
    clear H'
    obtain ⟨x7_1, rfl, HA, HK1, HB⟩ := hrel
    cases gk with
    | zero => exact absurd HA.out (by simp [impl_SamplesOk.l0])
    | succ k1 =>
      have H := HA.out
      clear HA
      simp only [impl_SamplesOk.l0] at H
      by_cases c2 : x7_1 < (l0.length : Int)
      · rw [if_pos c2] at H
        have c2b0 : decide (x7_1 < (l0.length : Int)) = true := decide_eq_true c2
        clear c2
        by_cases c3 : 0 ≤ x7_1
        · rw [if_pos c3] at H
          have c3b0 : decide (0 ≤ x7_1) = true := decide_eq_true c3
          clear c3
          by_cases c4 : x7_1 < (l0.length : Int)
          · rw [if_pos c4] at H
            have c4b0 : decide (x7_1 < (l0.length : Int)) = true := decide_eq_true c4
            clear c4
            replace H := Option.bind_eq_some_iff.mp H
            obtain ⟨t151, A50, H⟩ := H
            replace H : (if t151 = true then ((impl_isValue.f ((rd_T117 l0 x7_1).f1)).bind fun t152 => (if t152 = true then (if x7_1 > 0 then (if 0 ≤ (wrap64 (x7_1 - 1)) then (if (wrap64 (x7_1 - 1)) < (l0.length : Int) then (if ((rd_T117 l0 (wrap64 (x7_1 - 1))).f0) ≥ ((rd_T117 l0 x7_1).f0) then (some false) else (impl_SamplesOk.l0 k1 l0 l0 (l0.length : Int) (wrap64 (x7_1 + 1)))) else (none)) else (none)) else (impl_SamplesOk.l0 k1 l0 l0 (l0.length : Int) (wrap64 (x7_1 + 1)))) else (some false))) else (some false)) = some r := H
            have A5 := Aside0.mk A50
            clear A50
            by_cases c6 : t151 = true
            · subst c6
              have H1 : ((impl_isValue.f ((rd_T117 l0 x7_1).f1)).bind fun t152 => (if t152 = true then (if x7_1 > 0 then (if 0 ≤ (wrap64 (x7_1 - 1)) then (if (wrap64 (x7_1 - 1)) < (l0.length : Int) then (if ((rd_T117 l0 (wrap64 (x7_1 - 1))).f0) ≥ ((rd_T117 l0 x7_1).f0) then (some false) else (impl_SamplesOk.l0 k1 l0 l0 (l0.length : Int) (wrap64 (x7_1 + 1)))) else (none)) else (none)) else (impl_SamplesOk.l0 k1 l0 l0 (l0.length : Int) (wrap64 (x7_1 + 1)))) else (some false))) = some r := by rw [if_pos rfl] at H; exact H
              clear H
              have H := H1
              clear H1
              replace H := Option.bind_eq_some_iff.mp H
              obtain ⟨t152, A70, H⟩ := H
              replace H : (if t152 = true then (if x7_1 > 0 then (if 0 ≤ (wrap64 (x7_1 - 1)) then (if (wrap64 (x7_1 - 1)) < (l0.length : Int) then (if ((rd_T117 l0 (wrap64 (x7_1 - 1))).f0) ≥ ((rd_T117 l0 x7_1).f0) then (some false) else (impl_SamplesOk.l0 k1 l0 l0 (l0.length : Int) (wrap64 (x7_1 + 1)))) else (none)) else (none)) else (impl_SamplesOk.l0 k1 l0 l0 (l0.length : Int) (wrap64 (x7_1 + 1)))) else (some false)) = some r := H
              have A7 := Aside0.mk A70
              clear A70
              by_cases c8 : t152 = true
              · subst c8
                have H1 : (if x7_1 > 0 then (if 0 ≤ (wrap64 (x7_1 - 1)) then (if (wrap64 (x7_1 - 1)) < (l0.length : Int) then (if ((rd_T117 l0 (wrap64 (x7_1 - 1))).f0) ≥ ((rd_T117 l0 x7_1).f0) then (some false) else (impl_SamplesOk.l0 k1 l0 l0 (l0.length : Int) (wrap64 (x7_1 + 1)))) else (none)) else (none)) else (impl_SamplesOk.l0 k1 l0 l0 (l0.length : Int) (wrap64 (x7_1 + 1)))) = some r := by rw [if_pos rfl] at H; exact H
                clear H
                have H := H1
                clear H1
                by_cases c9 : x7_1 > 0
                · rw [if_pos c9] at H
                  have c9b0 : decide (0 < x7_1) = true := decide_eq_true c9
                  clear c9
                  obtain ⟨ji10, hji10⟩ : ∃ j_ : Int, (wrap64 (x7_1 - 1)) = j_ := ⟨_, rfl⟩
                  replace H : (if 0 ≤ (ji10) then (if (ji10) < (l0.length : Int) then (if ((rd_T117 l0 (ji10)).f0) ≥ ((rd_T117 l0 x7_1).f0) then (some false) else (impl_SamplesOk.l0 k1 l0 l0 (l0.length : Int) (wrap64 (x7_1 + 1)))) else (none)) else (none)) = some r := by first | (rw [hji10] at H; exact H) | (simp only [hji10] at H ⊢; exact H)
                  (try rw [hji10] at A5)
                  (try rw [hji10] at A7)
                  have hji10w : (IntKind.i64.wrap (x7_1 - 1)) = ji10 := (i64_w _).trans hji10
                  by_cases c11 : 0 ≤ (ji10)
                  · rw [if_pos c11] at H
                    have c11b0 : decide (0 ≤ (ji10)) = true := decide_eq_true c11
                    clear c11
                    by_cases c12 : (ji10) < (l0.length : Int)
                    · rw [if_pos c12] at H
                      have c12b0 : decide ((ji10) < (l0.length : Int)) = true := decide_eq_true c12
                      clear c12
                      by_cases c13 : ((rd_T117 l0 (ji10)).f0) ≥ ((rd_T117 l0 x7_1).f0)
                      · rw [if_pos c13] at H
                        have c13b0 : decide (((rd_T117 l0 x7_1).f0) ≤ ((rd_T117 l0 (ji10)).f0)) = true := decide_eq_true c13
                        clear c13
                        obtain rfl := Option.some.inj H
                        have p149 : 0 ≤ (x7_1 : Int) := of_decide_eq_true (by first | (with_reducible assumption) | assumption)
                        have q149 : x7_1 < (l0.length : Int) := of_decide_eq_true (by first | (with_reducible assumption) | assumption)
                        obtain ⟨ad149, e149, hx149_0, hx149_1⟩ := at_T117 HR0.out x7_1 p149 q149
                        cases e149
                        replace hx149_0 := (HB.out.cell (World.block_lt_of_cell? w _ hx149_0)).trans hx149_0
                        replace hx149_1 := (HB.out.cell (World.block_lt_of_cell? w _ hx149_1)).trans hx149_1
                        replace p149 := eq_true p149
                        replace q149 := eq_true q149
                        go_wp2_with (first | ((with_reducible refine gate_dst (N := 4) rfl ?_); refine box_event ?hg (N := 4) ?hd (cs := #[.int .i64 0, .int .i64 0]) (t := 117) ?hr ?_; (case hd => rfl); (case hg => rfl); (case hr => first | (go_simp; done) | (go_simp; rfl)); intro gb150 hg w14 hbox hb; have n0_ := Aside0.mk (below_step (by repeat (first | (with_reducible first | exact HB.out | apply below_alloc | apply pw_below_drewN | apply below_drew1) | exact HB.out)) hb); have n1_ := Aside0.mk (hbox); have n2_ := Aside0.mk ((by rw [hg]; exact (below_size (by repeat (first | (with_reducible first | exact HB.out | apply below_alloc | apply pw_below_drewN | apply below_drew1) | exact HB.out))) : w.heap.size ≤ gb150)); have n3_ := Aside0.mk ((by rw [hg]; exact (below_size (by repeat (first | (with_reducible first | exact HB.out | apply below_alloc | apply pw_below_drewN | apply below_drew1) | exact HB.out))) : w.heap.size ≤ gb150)); clear HB; have HB := n0_; have BK150 := n1_; have GW150 := n2_; have GE150 := n3_; clear n0_ n1_ n2_ n3_; clear hb hbox hg; have hcz15_0 : w14.cell? ⟨gb150, 0, none⟩ = some (.int .i64 0) := (blk_cell BK150.out 0).trans rfl; have hcz15_1 : w14.cell? ⟨gb150, 1, none⟩ = some (.int .i64 0) := (blk_cell BK150.out 1).trans rfl; have hfz15_0 := blk_frozen BK150.out 0; have hfz15_1 := blk_frozen BK150.out 1) | (go_at_call 85; (with_reducible refine (impl_isTime.calls ((rd_T117 l0 x7_1).f0) true _ A5.out).mono ?_); rintro e w' ⟨rfl, ⟨nd, rfl⟩⟩; (try first | exact ⟨rfl, _, World.drewN_drewN _ _ _⟩ | exact ⟨rfl, _, Eq.trans (World.drewN_drewN _ _ _) (congrArg (World.drewN _) (Nat.add_assoc _ _ _))⟩)) | (go_at_call 86; (with_reducible refine (impl_isValue.calls ((rd_T117 l0 x7_1).f1) true _ A7.out).mono ?_); rintro e w' ⟨rfl, ⟨nd, rfl⟩⟩; (try first | exact ⟨rfl, _, World.drewN_drewN _ _ _⟩ | exact ⟨rfl, _, Eq.trans (World.drewN_drewN _ _ _) (congrArg (World.drewN _) (Nat.add_assoc _ _ _))⟩); have p153 : 0 ≤ ((ji10) : Int) := of_decide_eq_true (by first | (with_reducible assumption) | assumption); have q153 : (ji10) < (l0.length : Int) := of_decide_eq_true (by first | (with_reducible assumption) | assumption); obtain ⟨ad153, e153, hx153_0, hx153_1⟩ := at_T117 HR0.out (ji10) p153 q153; obtain rfl : ad149 = ad153 := (by injection e153); have hn153_0 : ad149.block ≠ gb150 := Nat.ne_of_lt (Nat.lt_of_lt_of_le (by have := World.block_lt_of_cell? _ _ hx153_0; first | rwa [add_block] at this | exact this) GW150.out); have hn153_1 : ad149.block ≠ gb150 := Nat.ne_of_lt (Nat.lt_of_lt_of_le (by have := World.block_lt_of_cell? _ _ hx153_0; first | rwa [add_block] at this | exact this) GW150.out); replace hx153_0 := (HB.out.cell (World.block_lt_of_cell? w _ hx153_0)).trans hx153_0; replace hx153_1 := (HB.out.cell (World.block_lt_of_cell? w _ hx153_1)).trans hx153_1; replace hx153_0 := (cell_far (p := ⟨gb150, 0, none⟩) (by first | (rw [add_block]; exact hn153_0) | (show (Addr.add _ _).block ≠ _; rw [add_block]; exact hn153_0) | exact hn153_0) (.int .i64 ((rd_T117 l0 x7_1).f0))).trans hx153_0; replace hx153_1 := (cell_far (p := ⟨gb150, 0, none⟩) (by first | (rw [add_block]; exact hn153_0) | (show (Addr.add _ _).block ≠ _; rw [add_block]; exact hn153_0) | exact hn153_0) (.int .i64 ((rd_T117 l0 x7_1).f0))).trans hx153_1; replace hx153_0 := (cell_far (p := ⟨gb150, 1, none⟩) (by first | (rw [add_block]; exact hn153_1) | (show (Addr.add _ _).block ≠ _; rw [add_block]; exact hn153_1) | exact hn153_1) (.int .i64 ((rd_T117 l0 x7_1).f1))).trans hx153_0; replace hx153_1 := (cell_far (p := ⟨gb150, 1, none⟩) (by first | (rw [add_block]; exact hn153_1) | (show (Addr.add _ _).block ≠ _; rw [add_block]; exact hn153_1) | exact hn153_1) (.int .i64 ((rd_T117 l0 x7_1).f1))).trans hx153_1; (try have hy153_0 := fun (n_ : Nat) => (show ((((w14.drewN n_).setCell ⟨gb150, 0, none⟩ (.int .i64 ((rd_T117 l0 x7_1).f0))).setCell ⟨gb150, 1, none⟩ (.int .i64 ((rd_T117 l0 x7_1).f1)))).cell? _ = some _ from hx153_0)); (try have hy153_1 := fun (n_ : Nat) => (show ((((w14.drewN n_).setCell ⟨gb150, 0, none⟩ (.int .i64 ((rd_T117 l0 x7_1).f0))).setCell ⟨gb150, 1, none⟩ (.int .i64 ((rd_T117 l0 x7_1).f1)))).cell? _ = some _ from hx153_1)); clear hn153_0; clear hn153_1; replace p153 := eq_true p153; replace q153 := eq_true q153))
                        repeat (go_quiet (first | ((with_reducible refine gate_dst (N := 4) rfl ?_); refine box_event ?hg (N := 4) ?hd (cs := #[.int .i64 0, .int .i64 0]) (t := 117) ?hr ?_; (case hd => rfl); (case hg => rfl); (case hr => first | (go_simp; done) | (go_simp; rfl)); intro gb150 hg w14 hbox hb; have n0_ := Aside0.mk (below_step (by repeat (first | (with_reducible first | exact HB.out | apply below_alloc | apply pw_below_drewN | apply below_drew1) | exact HB.out)) hb); have n1_ := Aside0.mk (hbox); have n2_ := Aside0.mk ((by rw [hg]; exact (below_size (by repeat (first | (with_reducible first | exact HB.out | apply below_alloc | apply pw_below_drewN | apply below_drew1) | exact HB.out))) : w.heap.size ≤ gb150)); have n3_ := Aside0.mk ((by rw [hg]; exact (below_size (by repeat (first | (with_reducible first | exact HB.out | apply below_alloc | apply pw_below_drewN | apply below_drew1) | exact HB.out))) : w.heap.size ≤ gb150)); clear HB; have HB := n0_; have BK150 := n1_; have GW150 := n2_; have GE150 := n3_; clear n0_ n1_ n2_ n3_; clear hb hbox hg; have hcz15_0 : w14.cell? ⟨gb150, 0, none⟩ = some (.int .i64 0) := (blk_cell BK150.out 0).trans rfl; have hcz15_1 : w14.cell? ⟨gb150, 1, none⟩ = some (.int .i64 0) := (blk_cell BK150.out 1).trans rfl; have hfz15_0 := blk_frozen BK150.out 0; have hfz15_1 := blk_frozen BK150.out 1) | (go_at_call 85; (with_reducible refine (impl_isTime.calls ((rd_T117 l0 x7_1).f0) true _ A5.out).mono ?_); rintro e w' ⟨rfl, ⟨nd, rfl⟩⟩; (try first | exact ⟨rfl, _, World.drewN_drewN _ _ _⟩ | exact ⟨rfl, _, Eq.trans (World.drewN_drewN _ _ _) (congrArg (World.drewN _) (Nat.add_assoc _ _ _))⟩)) | (go_at_call 86; (with_reducible refine (impl_isValue.calls ((rd_T117 l0 x7_1).f1) true _ A7.out).mono ?_); rintro e w' ⟨rfl, ⟨nd, rfl⟩⟩; (try first | exact ⟨rfl, _, World.drewN_drewN _ _ _⟩ | exact ⟨rfl, _, Eq.trans (World.drewN_drewN _ _ _) (congrArg (World.drewN _) (Nat.add_assoc _ _ _))⟩); have p153 : 0 ≤ ((ji10) : Int) := of_decide_eq_true (by first | (with_reducible assumption) | assumption); have q153 : (ji10) < (l0.length : Int) := of_decide_eq_true (by first | (with_reducible assumption) | assumption); obtain ⟨ad153, e153, hx153_0, hx153_1⟩ := at_T117 HR0.out (ji10) p153 q153; obtain rfl : ad149 = ad153 := (by injection e153); have hn153_0 : ad149.block ≠ gb150 := Nat.ne_of_lt (Nat.lt_of_lt_of_le (by have := World.block_lt_of_cell? _ _ hx153_0; first | rwa [add_block] at this | exact this) GW150.out); have hn153_1 : ad149.block ≠ gb150 := Nat.ne_of_lt (Nat.lt_of_lt_of_le (by have := World.block_lt_of_cell? _ _ hx153_0; first | rwa [add_block] at this | exact this) GW150.out); replace hx153_0 := (HB.out.cell (World.block_lt_of_cell? w _ hx153_0)).trans hx153_0; replace hx153_1 := (HB.out.cell (World.block_lt_of_cell? w _ hx153_1)).trans hx153_1; replace hx153_0 := (cell_far (p := ⟨gb150, 0, none⟩) (by first | (rw [add_block]; exact hn153_0) | (show (Addr.add _ _).block ≠ _; rw [add_block]; exact hn153_0) | exact hn153_0) (.int .i64 ((rd_T117 l0 x7_1).f0))).trans hx153_0; replace hx153_1 := (cell_far (p := ⟨gb150, 0, none⟩) (by first | (rw [add_block]; exact hn153_0) | (show (Addr.add _ _).block ≠ _; rw [add_block]; exact hn153_0) | exact hn153_0) (.int .i64 ((rd_T117 l0 x7_1).f0))).trans hx153_1; replace hx153_0 := (cell_far (p := ⟨gb150, 1, none⟩) (by first | (rw [add_block]; exact hn153_1) | (show (Addr.add _ _).block ≠ _; rw [add_block]; exact hn153_1) | exact hn153_1) (.int .i64 ((rd_T117 l0 x7_1).f1))).trans hx153_0; replace hx153_1 := (cell_far (p := ⟨gb150, 1, none⟩) (by first | (rw [add_block]; exact hn153_1) | (show (Addr.add _ _).block ≠ _; rw [add_block]; exact hn153_1) | exact hn153_1) (.int .i64 ((rd_T117 l0 x7_1).f1))).trans hx153_1; (try have hy153_0 := fun (n_ : Nat) => (show ((((w14.drewN n_).setCell ⟨gb150, 0, none⟩ (.int .i64 ((rd_T117 l0 x7_1).f0))).setCell ⟨gb150, 1, none⟩ (.int .i64 ((rd_T117 l0 x7_1).f1)))).cell? _ = some _ from hx153_0)); (try have hy153_1 := fun (n_ : Nat) => (show ((((w14.drewN n_).setCell ⟨gb150, 0, none⟩ (.int .i64 ((rd_T117 l0 x7_1).f0))).setCell ⟨gb150, 1, none⟩ (.int .i64 ((rd_T117 l0 x7_1).f1)))).cell? _ = some _ from hx153_1)); clear hn153_0; clear hn153_1; replace p153 := eq_true p153; replace q153 := eq_true q153)); try go_wp2_with (first | ((with_reducible refine gate_dst (N := 4) rfl ?_); refine box_event ?hg (N := 4) ?hd (cs := #[.int .i64 0, .int .i64 0]) (t := 117) ?hr ?_; (case hd => rfl); (case hg => rfl); (case hr => first | (go_simp; done) | (go_simp; rfl)); intro gb150 hg w14 hbox hb; have n0_ := Aside0.mk (below_step (by repeat (first | (with_reducible first | exact HB.out | apply below_alloc | apply pw_below_drewN | apply below_drew1) | exact HB.out)) hb); have n1_ := Aside0.mk (hbox); have n2_ := Aside0.mk ((by rw [hg]; exact (below_size (by repeat (first | (with_reducible first | exact HB.out | apply below_alloc | apply pw_below_drewN | apply below_drew1) | exact HB.out))) : w.heap.size ≤ gb150)); have n3_ := Aside0.mk ((by rw [hg]; exact (below_size (by repeat (first | (with_reducible first | exact HB.out | apply below_alloc | apply pw_below_drewN | apply below_drew1) | exact HB.out))) : w.heap.size ≤ gb150)); clear HB; have HB := n0_; have BK150 := n1_; have GW150 := n2_; have GE150 := n3_; clear n0_ n1_ n2_ n3_; clear hb hbox hg; have hcz15_0 : w14.cell? ⟨gb150, 0, none⟩ = some (.int .i64 0) := (blk_cell BK150.out 0).trans rfl; have hcz15_1 : w14.cell? ⟨gb150, 1, none⟩ = some (.int .i64 0) := (blk_cell BK150.out 1).trans rfl; have hfz15_0 := blk_frozen BK150.out 0; have hfz15_1 := blk_frozen BK150.out 1) | (go_at_call 85; (with_reducible refine (impl_isTime.calls ((rd_T117 l0 x7_1).f0) true _ A5.out).mono ?_); rintro e w' ⟨rfl, ⟨nd, rfl⟩⟩; (try first | exact ⟨rfl, _, World.drewN_drewN _ _ _⟩ | exact ⟨rfl, _, Eq.trans (World.drewN_drewN _ _ _) (congrArg (World.drewN _) (Nat.add_assoc _ _ _))⟩)) | (go_at_call 86; (with_reducible refine (impl_isValue.calls ((rd_T117 l0 x7_1).f1) true _ A7.out).mono ?_); rintro e w' ⟨rfl, ⟨nd, rfl⟩⟩; (try first | exact ⟨rfl, _, World.drewN_drewN _ _ _⟩ | exact ⟨rfl, _, Eq.trans (World.drewN_drewN _ _ _) (congrArg (World.drewN _) (Nat.add_assoc _ _ _))⟩); have p153 : 0 ≤ ((ji10) : Int) := of_decide_eq_true (by first | (with_reducible assumption) | assumption); have q153 : (ji10) < (l0.length : Int) := of_decide_eq_true (by first | (with_reducible assumption) | assumption); obtain ⟨ad153, e153, hx153_0, hx153_1⟩ := at_T117 HR0.out (ji10) p153 q153; obtain rfl : ad149 = ad153 := (by injection e153); have hn153_0 : ad149.block ≠ gb150 := Nat.ne_of_lt (Nat.lt_of_lt_of_le (by have := World.block_lt_of_cell? _ _ hx153_0; first | rwa [add_block] at this | exact this) GW150.out); have hn153_1 : ad149.block ≠ gb150 := Nat.ne_of_lt (Nat.lt_of_lt_of_le (by have := World.block_lt_of_cell? _ _ hx153_0; first | rwa [add_block] at this | exact this) GW150.out); replace hx153_0 := (HB.out.cell (World.block_lt_of_cell? w _ hx153_0)).trans hx153_0; replace hx153_1 := (HB.out.cell (World.block_lt_of_cell? w _ hx153_1)).trans hx153_1; replace hx153_0 := (cell_far (p := ⟨gb150, 0, none⟩) (by first | (rw [add_block]; exact hn153_0) | (show (Addr.add _ _).block ≠ _; rw [add_block]; exact hn153_0) | exact hn153_0) (.int .i64 ((rd_T117 l0 x7_1).f0))).trans hx153_0; replace hx153_1 := (cell_far (p := ⟨gb150, 0, none⟩) (by first | (rw [add_block]; exact hn153_0) | (show (Addr.add _ _).block ≠ _; rw [add_block]; exact hn153_0) | exact hn153_0) (.int .i64 ((rd_T117 l0 x7_1).f0))).trans hx153_1; replace hx153_0 := (cell_far (p := ⟨gb150, 1, none⟩) (by first | (rw [add_block]; exact hn153_1) | (show (Addr.add _ _).block ≠ _; rw [add_block]; exact hn153_1) | exact hn153_1) (.int .i64 ((rd_T117 l0 x7_1).f1))).trans hx153_0; replace hx153_1 := (cell_far (p := ⟨gb150, 1, none⟩) (by first | (rw [add_block]; exact hn153_1) | (show (Addr.add _ _).block ≠ _; rw [add_block]; exact hn153_1) | exact hn153_1) (.int .i64 ((rd_T117 l0 x7_1).f1))).trans hx153_1; (try have hy153_0 := fun (n_ : Nat) => (show ((((w14.drewN n_).setCell ⟨gb150, 0, none⟩ (.int .i64 ((rd_T117 l0 x7_1).f0))).setCell ⟨gb150, 1, none⟩ (.int .i64 ((rd_T117 l0 x7_1).f1)))).cell? _ = some _ from hx153_0)); (try have hy153_1 := fun (n_ : Nat) => (show ((((w14.drewN n_).setCell ⟨gb150, 0, none⟩ (.int .i64 ((rd_T117 l0 x7_1).f0))).setCell ⟨gb150, 1, none⟩ (.int .i64 ((rd_T117 l0 x7_1).f1)))).cell? _ = some _ from hx153_1)); clear hn153_0; clear hn153_1; replace p153 := eq_true p153; replace q153 := eq_true q153)))
                        go_ret
                        exact ⟨by first | rfl | (simp [errW_none, errW_some] <;> rfl) | (simp only [← hji10]; first | rfl | (simp [errW_none, errW_some] <;> rfl)) | (simp [*, errW_none, errW_some] <;> rfl), by repeat (first | (with_reducible first | exact HB.out | apply below_alloc | apply pw_below_drewN | apply below_drew1 | refine below_set ?_ GE150.out) | exact HB.out)⟩
                      · rw [if_neg c13] at H
                        have c13b0 : decide (((rd_T117 l0 x7_1).f0) ≤ ((rd_T117 l0 (ji10)).f0)) = false := decide_eq_false c13
                        clear c13
                        have H' := Aside0.mk H
                        clear H
                        have p149 : 0 ≤ (x7_1 : Int) := of_decide_eq_true (by first | (with_reducible assumption) | assumption)
                        have q149 : x7_1 < (l0.length : Int) := of_decide_eq_true (by first | (with_reducible assumption) | assumption)
                        obtain ⟨ad149, e149, hx149_0, hx149_1⟩ := at_T117 HR0.out x7_1 p149 q149
                        cases e149
                        replace hx149_0 := (HB.out.cell (World.block_lt_of_cell? w _ hx149_0)).trans hx149_0
                        replace hx149_1 := (HB.out.cell (World.block_lt_of_cell? w _ hx149_1)).trans hx149_1
                        replace p149 := eq_true p149
                        replace q149 := eq_true q149
                        go_wp2_with (first | ((with_reducible refine gate_dst (N := 4) rfl ?_); refine box_event ?hg (N := 4) ?hd (cs := #[.int .i64 0, .int .i64 0]) (t := 117) ?hr ?_; (case hd => rfl); (case hg => rfl); (case hr => first | (go_simp; done) | (go_simp; rfl)); intro gb150 hg w16 hbox hb; have n0_ := Aside0.mk (below_step (by repeat (first | (with_reducible first | exact HB.out | apply below_alloc | apply pw_below_drewN | apply below_drew1) | exact HB.out)) hb); have n1_ := Aside0.mk (hbox); have n2_ := Aside0.mk ((by rw [hg]; exact (below_size (by repeat (first | (with_reducible first | exact HB.out | apply below_alloc | apply pw_below_drewN | apply below_drew1) | exact HB.out))) : w.heap.size ≤ gb150)); have n3_ := Aside0.mk ((by rw [hg]; exact (below_size (by repeat (first | (with_reducible first | exact HB.out | apply below_alloc | apply pw_below_drewN | apply below_drew1) | exact HB.out))) : w.heap.size ≤ gb150)); clear HB; have HB := n0_; have BK150 := n1_; have GW150 := n2_; have GE150 := n3_; clear n0_ n1_ n2_ n3_; clear hb hbox hg; have hcz17_0 : w16.cell? ⟨gb150, 0, none⟩ = some (.int .i64 0) := (blk_cell BK150.out 0).trans rfl; have hcz17_1 : w16.cell? ⟨gb150, 1, none⟩ = some (.int .i64 0) := (blk_cell BK150.out 1).trans rfl; have hfz17_0 := blk_frozen BK150.out 0; have hfz17_1 := blk_frozen BK150.out 1) | (go_at_call 85; (with_reducible refine (impl_isTime.calls ((rd_T117 l0 x7_1).f0) true _ A5.out).mono ?_); rintro e w' ⟨rfl, ⟨nd, rfl⟩⟩; (try first | exact ⟨rfl, _, World.drewN_drewN _ _ _⟩ | exact ⟨rfl, _, Eq.trans (World.drewN_drewN _ _ _) (congrArg (World.drewN _) (Nat.add_assoc _ _ _))⟩)) | (go_at_call 86; (with_reducible refine (impl_isValue.calls ((rd_T117 l0 x7_1).f1) true _ A7.out).mono ?_); rintro e w' ⟨rfl, ⟨nd, rfl⟩⟩; (try first | exact ⟨rfl, _, World.drewN_drewN _ _ _⟩ | exact ⟨rfl, _, Eq.trans (World.drewN_drewN _ _ _) (congrArg (World.drewN _) (Nat.add_assoc _ _ _))⟩); have p153 : 0 ≤ ((ji10) : Int) := of_decide_eq_true (by first | (with_reducible assumption) | assumption); have q153 : (ji10) < (l0.length : Int) := of_decide_eq_true (by first | (with_reducible assumption) | assumption); obtain ⟨ad153, e153, hx153_0, hx153_1⟩ := at_T117 HR0.out (ji10) p153 q153; obtain rfl : ad149 = ad153 := (by injection e153); have hn153_0 : ad149.block ≠ gb150 := Nat.ne_of_lt (Nat.lt_of_lt_of_le (by have := World.block_lt_of_cell? _ _ hx153_0; first | rwa [add_block] at this | exact this) GW150.out); have hn153_1 : ad149.block ≠ gb150 := Nat.ne_of_lt (Nat.lt_of_lt_of_le (by have := World.block_lt_of_cell? _ _ hx153_0; first | rwa [add_block] at this | exact this) GW150.out); replace hx153_0 := (HB.out.cell (World.block_lt_of_cell? w _ hx153_0)).trans hx153_0; replace hx153_1 := (HB.out.cell (World.block_lt_of_cell? w _ hx153_1)).trans hx153_1; replace hx153_0 := (cell_far (p := ⟨gb150, 0, none⟩) (by first | (rw [add_block]; exact hn153_0) | (show (Addr.add _ _).block ≠ _; rw [add_block]; exact hn153_0) | exact hn153_0) (.int .i64 ((rd_T117 l0 x7_1).f0))).trans hx153_0; replace hx153_1 := (cell_far (p := ⟨gb150, 0, none⟩) (by first | (rw [add_block]; exact hn153_0) | (show (Addr.add _ _).block ≠ _; rw [add_block]; exact hn153_0) | exact hn153_0) (.int .i64 ((rd_T117 l0 x7_1).f0))).trans hx153_1; replace hx153_0 := (cell_far (p := ⟨gb150, 1, none⟩) (by first | (rw [add_block]; exact hn153_1) | (show (Addr.add _ _).block ≠ _; rw [add_block]; exact hn153_1) | exact hn153_1) (.int .i64 ((rd_T117 l0 x7_1).f1))).trans hx153_0; replace hx153_1 := (cell_far (p := ⟨gb150, 1, none⟩) (by first | (rw [add_block]; exact hn153_1) | (show (Addr.add _ _).block ≠ _; rw [add_block]; exact hn153_1) | exact hn153_1) (.int .i64 ((rd_T117 l0 x7_1).f1))).trans hx153_1; (try have hy153_0 := fun (n_ : Nat) => (show ((((w16.drewN n_).setCell ⟨gb150, 0, none⟩ (.int .i64 ((rd_T117 l0 x7_1).f0))).setCell ⟨gb150, 1, none⟩ (.int .i64 ((rd_T117 l0 x7_1).f1)))).cell? _ = some _ from hx153_0)); (try have hy153_1 := fun (n_ : Nat) => (show ((((w16.drewN n_).setCell ⟨gb150, 0, none⟩ (.int .i64 ((rd_T117 l0 x7_1).f0))).setCell ⟨gb150, 1, none⟩ (.int .i64 ((rd_T117 l0 x7_1).f1)))).cell? _ = some _ from hx153_1)); clear hn153_0; clear hn153_1; replace p153 := eq_true p153; replace q153 := eq_true q153))
                        repeat (go_quiet (first | ((with_reducible refine gate_dst (N := 4) rfl ?_); refine box_event ?hg (N := 4) ?hd (cs := #[.int .i64 0, .int .i64 0]) (t := 117) ?hr ?_; (case hd => rfl); (case hg => rfl); (case hr => first | (go_simp; done) | (go_simp; rfl)); intro gb150 hg w16 hbox hb; have n0_ := Aside0.mk (below_step (by repeat (first | (with_reducible first | exact HB.out | apply below_alloc | apply pw_below_drewN | apply below_drew1) | exact HB.out)) hb); have n1_ := Aside0.mk (hbox); have n2_ := Aside0.mk ((by rw [hg]; exact (below_size (by repeat (first | (with_reducible first | exact HB.out | apply below_alloc | apply pw_below_drewN | apply below_drew1) | exact HB.out))) : w.heap.size ≤ gb150)); have n3_ := Aside0.mk ((by rw [hg]; exact (below_size (by repeat (first | (with_reducible first | exact HB.out | apply below_alloc | apply pw_below_drewN | apply below_drew1) | exact HB.out))) : w.heap.size ≤ gb150)); clear HB; have HB := n0_; have BK150 := n1_; have GW150 := n2_; have GE150 := n3_; clear n0_ n1_ n2_ n3_; clear hb hbox hg; have hcz17_0 : w16.cell? ⟨gb150, 0, none⟩ = some (.int .i64 0) := (blk_cell BK150.out 0).trans rfl; have hcz17_1 : w16.cell? ⟨gb150, 1, none⟩ = some (.int .i64 0) := (blk_cell BK150.out 1).trans rfl; have hfz17_0 := blk_frozen BK150.out 0; have hfz17_1 := blk_frozen BK150.out 1) | (go_at_call 85; (with_reducible refine (impl_isTime.calls ((rd_T117 l0 x7_1).f0) true _ A5.out).mono ?_); rintro e w' ⟨rfl, ⟨nd, rfl⟩⟩; (try first | exact ⟨rfl, _, World.drewN_drewN _ _ _⟩ | exact ⟨rfl, _, Eq.trans (World.drewN_drewN _ _ _) (congrArg (World.drewN _) (Nat.add_assoc _ _ _))⟩)) | (go_at_call 86; (with_reducible refine (impl_isValue.calls ((rd_T117 l0 x7_1).f1) true _ A7.out).mono ?_); rintro e w' ⟨rfl, ⟨nd, rfl⟩⟩; (try first | exact ⟨rfl, _, World.drewN_drewN _ _ _⟩ | exact ⟨rfl, _, Eq.trans (World.drewN_drewN _ _ _) (congrArg (World.drewN _) (Nat.add_assoc _ _ _))⟩); have p153 : 0 ≤ ((ji10) : Int) := of_decide_eq_true (by first | (with_reducible assumption) | assumption); have q153 : (ji10) < (l0.length : Int) := of_decide_eq_true (by first | (with_reducible assumption) | assumption); obtain ⟨ad153, e153, hx153_0, hx153_1⟩ := at_T117 HR0.out (ji10) p153 q153; obtain rfl : ad149 = ad153 := (by injection e153); have hn153_0 : ad149.block ≠ gb150 := Nat.ne_of_lt (Nat.lt_of_lt_of_le (by have := World.block_lt_of_cell? _ _ hx153_0; first | rwa [add_block] at this | exact this) GW150.out); have hn153_1 : ad149.block ≠ gb150 := Nat.ne_of_lt (Nat.lt_of_lt_of_le (by have := World.block_lt_of_cell? _ _ hx153_0; first | rwa [add_block] at this | exact this) GW150.out); replace hx153_0 := (HB.out.cell (World.block_lt_of_cell? w _ hx153_0)).trans hx153_0; replace hx153_1 := (HB.out.cell (World.block_lt_of_cell? w _ hx153_1)).trans hx153_1; replace hx153_0 := (cell_far (p := ⟨gb150, 0, none⟩) (by first | (rw [add_block]; exact hn153_0) | (show (Addr.add _ _).block ≠ _; rw [add_block]; exact hn153_0) | exact hn153_0) (.int .i64 ((rd_T117 l0 x7_1).f0))).trans hx153_0; replace hx153_1 := (cell_far (p := ⟨gb150, 0, none⟩) (by first | (rw [add_block]; exact hn153_0) | (show (Addr.add _ _).block ≠ _; rw [add_block]; exact hn153_0) | exact hn153_0) (.int .i64 ((rd_T117 l0 x7_1).f0))).trans hx153_1; replace hx153_0 := (cell_far (p := ⟨gb150, 1, none⟩) (by first | (rw [add_block]; exact hn153_1) | (show (Addr.add _ _).block ≠ _; rw [add_block]; exact hn153_1) | exact hn153_1) (.int .i64 ((rd_T117 l0 x7_1).f1))).trans hx153_0; replace hx153_1 := (cell_far (p := ⟨gb150, 1, none⟩) (by first | (rw [add_block]; exact hn153_1) | (show (Addr.add _ _).block ≠ _; rw [add_block]; exact hn153_1) | exact hn153_1) (.int .i64 ((rd_T117 l0 x7_1).f1))).trans hx153_1; (try have hy153_0 := fun (n_ : Nat) => (show ((((w16.drewN n_).setCell ⟨gb150, 0, none⟩ (.int .i64 ((rd_T117 l0 x7_1).f0))).setCell ⟨gb150, 1, none⟩ (.int .i64 ((rd_T117 l0 x7_1).f1)))).cell? _ = some _ from hx153_0)); (try have hy153_1 := fun (n_ : Nat) => (show ((((w16.drewN n_).setCell ⟨gb150, 0, none⟩ (.int .i64 ((rd_T117 l0 x7_1).f0))).setCell ⟨gb150, 1, none⟩ (.int .i64 ((rd_T117 l0 x7_1).f1)))).cell? _ = some _ from hx153_1)); clear hn153_0; clear hn153_1; replace p153 := eq_true p153; replace q153 := eq_true q153)); try go_wp2_with (first | ((with_reducible refine gate_dst (N := 4) rfl ?_); refine box_event ?hg (N := 4) ?hd (cs := #[.int .i64 0, .int .i64 0]) (t := 117) ?hr ?_; (case hd => rfl); (case hg => rfl); (case hr => first | (go_simp; done) | (go_simp; rfl)); intro gb150 hg w16 hbox hb; have n0_ := Aside0.mk (below_step (by repeat (first | (with_reducible first | exact HB.out | apply below_alloc | apply pw_below_drewN | apply below_drew1) | exact HB.out)) hb); have n1_ := Aside0.mk (hbox); have n2_ := Aside0.mk ((by rw [hg]; exact (below_size (by repeat (first | (with_reducible first | exact HB.out | apply below_alloc | apply pw_below_drewN | apply below_drew1) | exact HB.out))) : w.heap.size ≤ gb150)); have n3_ := Aside0.mk ((by rw [hg]; exact (below_size (by repeat (first | (with_reducible first | exact HB.out | apply below_alloc | apply pw_below_drewN | apply below_drew1) | exact HB.out))) : w.heap.size ≤ gb150)); clear HB; have HB := n0_; have BK150 := n1_; have GW150 := n2_; have GE150 := n3_; clear n0_ n1_ n2_ n3_; clear hb hbox hg; have hcz17_0 : w16.cell? ⟨gb150, 0, none⟩ = some (.int .i64 0) := (blk_cell BK150.out 0).trans rfl; have hcz17_1 : w16.cell? ⟨gb150, 1, none⟩ = some (.int .i64 0) := (blk_cell BK150.out 1).trans rfl; have hfz17_0 := blk_frozen BK150.out 0; have hfz17_1 := blk_frozen BK150.out 1) | (go_at_call 85; (with_reducible refine (impl_isTime.calls ((rd_T117 l0 x7_1).f0) true _ A5.out).mono ?_); rintro e w' ⟨rfl, ⟨nd, rfl⟩⟩; (try first | exact ⟨rfl, _, World.drewN_drewN _ _ _⟩ | exact ⟨rfl, _, Eq.trans (World.drewN_drewN _ _ _) (congrArg (World.drewN _) (Nat.add_assoc _ _ _))⟩)) | (go_at_call 86; (with_reducible refine (impl_isValue.calls ((rd_T117 l0 x7_1).f1) true _ A7.out).mono ?_); rintro e w' ⟨rfl, ⟨nd, rfl⟩⟩; (try first | exact ⟨rfl, _, World.drewN_drewN _ _ _⟩ | exact ⟨rfl, _, Eq.trans (World.drewN_drewN _ _ _) (congrArg (World.drewN _) (Nat.add_assoc _ _ _))⟩); have p153 : 0 ≤ ((ji10) : Int) := of_decide_eq_true (by first | (with_reducible assumption) | assumption); have q153 : (ji10) < (l0.length : Int) := of_decide_eq_true (by first | (with_reducible assumption) | assumption); obtain ⟨ad153, e153, hx153_0, hx153_1⟩ := at_T117 HR0.out (ji10) p153 q153; obtain rfl : ad149 = ad153 := (by injection e153); have hn153_0 : ad149.block ≠ gb150 := Nat.ne_of_lt (Nat.lt_of_lt_of_le (by have := World.block_lt_of_cell? _ _ hx153_0; first | rwa [add_block] at this | exact this) GW150.out); have hn153_1 : ad149.block ≠ gb150 := Nat.ne_of_lt (Nat.lt_of_lt_of_le (by have := World.block_lt_of_cell? _ _ hx153_0; first | rwa [add_block] at this | exact this) GW150.out); replace hx153_0 := (HB.out.cell (World.block_lt_of_cell? w _ hx153_0)).trans hx153_0; replace hx153_1 := (HB.out.cell (World.block_lt_of_cell? w _ hx153_1)).trans hx153_1; replace hx153_0 := (cell_far (p := ⟨gb150, 0, none⟩) (by first | (rw [add_block]; exact hn153_0) | (show (Addr.add _ _).block ≠ _; rw [add_block]; exact hn153_0) | exact hn153_0) (.int .i64 ((rd_T117 l0 x7_1).f0))).trans hx153_0; replace hx153_1 := (cell_far (p := ⟨gb150, 0, none⟩) (by first | (rw [add_block]; exact hn153_0) | (show (Addr.add _ _).block ≠ _; rw [add_block]; exact hn153_0) | exact hn153_0) (.int .i64 ((rd_T117 l0 x7_1).f0))).trans hx153_1; replace hx153_0 := (cell_far (p := ⟨gb150, 1, none⟩) (by first | (rw [add_block]; exact hn153_1) | (show (Addr.add _ _).block ≠ _; rw [add_block]; exact hn153_1) | exact hn153_1) (.int .i64 ((rd_T117 l0 x7_1).f1))).trans hx153_0; replace hx153_1 := (cell_far (p := ⟨gb150, 1, none⟩) (by first | (rw [add_block]; exact hn153_1) | (show (Addr.add _ _).block ≠ _; rw [add_block]; exact hn153_1) | exact hn153_1) (.int .i64 ((rd_T117 l0 x7_1).f1))).trans hx153_1; (try have hy153_0 := fun (n_ : Nat) => (show ((((w16.drewN n_).setCell ⟨gb150, 0, none⟩ (.int .i64 ((rd_T117 l0 x7_1).f0))).setCell ⟨gb150, 1, none⟩ (.int .i64 ((rd_T117 l0 x7_1).f1)))).cell? _ = some _ from hx153_0)); (try have hy153_1 := fun (n_ : Nat) => (show ((((w16.drewN n_).setCell ⟨gb150, 0, none⟩ (.int .i64 ((rd_T117 l0 x7_1).f0))).setCell ⟨gb150, 1, none⟩ (.int .i64 ((rd_T117 l0 x7_1).f1)))).cell? _ = some _ from hx153_1)); clear hn153_0; clear hn153_1; replace p153 := eq_true p153; replace q153 := eq_true q153)))
                        go_roundg k1
                        case measure => have := HK1.out; omega
                        case rel => exact ⟨(wrap64 (x7_1 + 1)), (by first | rfl | (simp; done) | (simp [*]; done) | (simp only [my_ne_nil]; rfl)), H', ⟨by have := HK1.out; omega⟩, ⟨by repeat (first | (with_reducible first | exact HB.out | apply below_alloc | apply pw_below_drewN | apply below_drew1 | refine below_set ?_ GE150.out) | exact HB.out)⟩⟩
                    · rw [if_neg c12] at H
                      exact absurd H (by simp)
                  · rw [if_neg c11] at H
                    exact absurd H (by simp)
                · rw [if_neg c9] at H
                  have c9b0 : decide (0 < x7_1) = false := decide_eq_false c9
                  clear c9
                  have H' := Aside0.mk H
                  clear H
                  have p149 : 0 ≤ (x7_1 : Int) := of_decide_eq_true (by first | (with_reducible assumption) | assumption)
                  have q149 : x7_1 < (l0.length : Int) := of_decide_eq_true (by first | (with_reducible assumption) | assumption)
                  obtain ⟨ad149, e149, hx149_0, hx149_1⟩ := at_T117 HR0.out x7_1 p149 q149
                  cases e149
                  replace hx149_0 := (HB.out.cell (World.block_lt_of_cell? w _ hx149_0)).trans hx149_0
                  replace hx149_1 := (HB.out.cell (World.block_lt_of_cell? w _ hx149_1)).trans hx149_1
                  replace p149 := eq_true p149
                  replace q149 := eq_true q149
                  go_wp2_with (first | ((with_reducible refine gate_dst (N := 4) rfl ?_); refine box_event ?hg (N := 4) ?hd (cs := #[.int .i64 0, .int .i64 0]) (t := 117) ?hr ?_; (case hd => rfl); (case hg => rfl); (case hr => first | (go_simp; done) | (go_simp; rfl)); intro gb150 hg w18 hbox hb; have n0_ := Aside0.mk (below_step (by repeat (first | (with_reducible first | exact HB.out | apply below_alloc | apply pw_below_drewN | apply below_drew1) | exact HB.out)) hb); have n1_ := Aside0.mk (hbox); have n2_ := Aside0.mk ((by rw [hg]; exact (below_size (by repeat (first | (with_reducible first | exact HB.out | apply below_alloc | apply pw_below_drewN | apply below_drew1) | exact HB.out))) : w.heap.size ≤ gb150)); have n3_ := Aside0.mk ((by rw [hg]; exact (below_size (by repeat (first | (with_reducible first | exact HB.out | apply below_alloc | apply pw_below_drewN | apply below_drew1) | exact HB.out))) : w.heap.size ≤ gb150)); clear HB; have HB := n0_; have BK150 := n1_; have GW150 := n2_; have GE150 := n3_; clear n0_ n1_ n2_ n3_; clear hb hbox hg; have hcz19_0 : w18.cell? ⟨gb150, 0, none⟩ = some (.int .i64 0) := (blk_cell BK150.out 0).trans rfl; have hcz19_1 : w18.cell? ⟨gb150, 1, none⟩ = some (.int .i64 0) := (blk_cell BK150.out 1).trans rfl; have hfz19_0 := blk_frozen BK150.out 0; have hfz19_1 := blk_frozen BK150.out 1) | (go_at_call 85; (with_reducible refine (impl_isTime.calls ((rd_T117 l0 x7_1).f0) true _ A5.out).mono ?_); rintro e w' ⟨rfl, ⟨nd, rfl⟩⟩; (try first | exact ⟨rfl, _, World.drewN_drewN _ _ _⟩ | exact ⟨rfl, _, Eq.trans (World.drewN_drewN _ _ _) (congrArg (World.drewN _) (Nat.add_assoc _ _ _))⟩)) | (go_at_call 86; (with_reducible refine (impl_isValue.calls ((rd_T117 l0 x7_1).f1) true _ A7.out).mono ?_); rintro e w' ⟨rfl, ⟨nd, rfl⟩⟩; (try first | exact ⟨rfl, _, World.drewN_drewN _ _ _⟩ | exact ⟨rfl, _, Eq.trans (World.drewN_drewN _ _ _) (congrArg (World.drewN _) (Nat.add_assoc _ _ _))⟩)))
                  repeat (go_quiet (first | ((with_reducible refine gate_dst (N := 4) rfl ?_); refine box_event ?hg (N := 4) ?hd (cs := #[.int .i64 0, .int .i64 0]) (t := 117) ?hr ?_; (case hd => rfl); (case hg => rfl); (case hr => first | (go_simp; done) | (go_simp; rfl)); intro gb150 hg w18 hbox hb; have n0_ := Aside0.mk (below_step (by repeat (first | (with_reducible first | exact HB.out | apply below_alloc | apply pw_below_drewN | apply below_drew1) | exact HB.out)) hb); have n1_ := Aside0.mk (hbox); have n2_ := Aside0.mk ((by rw [hg]; exact (below_size (by repeat (first | (with_reducible first | exact HB.out | apply below_alloc | apply pw_below_drewN | apply below_drew1) | exact HB.out))) : w.heap.size ≤ gb150)); have n3_ := Aside0.mk ((by rw [hg]; exact (below_size (by repeat (first | (with_reducible first | exact HB.out | apply below_alloc | apply pw_below_drewN | apply below_drew1) | exact HB.out))) : w.heap.size ≤ gb150)); clear HB; have HB := n0_; have BK150 := n1_; have GW150 := n2_; have GE150 := n3_; clear n0_ n1_ n2_ n3_; clear hb hbox hg; have hcz19_0 : w18.cell? ⟨gb150, 0, none⟩ = some (.int .i64 0) := (blk_cell BK150.out 0).trans rfl; have hcz19_1 : w18.cell? ⟨gb150, 1, none⟩ = some (.int .i64 0) := (blk_cell BK150.out 1).trans rfl; have hfz19_0 := blk_frozen BK150.out 0; have hfz19_1 := blk_frozen BK150.out 1) | (go_at_call 85; (with_reducible refine (impl_isTime.calls ((rd_T117 l0 x7_1).f0) true _ A5.out).mono ?_); rintro e w' ⟨rfl, ⟨nd, rfl⟩⟩; (try first | exact ⟨rfl, _, World.drewN_drewN _ _ _⟩ | exact ⟨rfl, _, Eq.trans (World.drewN_drewN _ _ _) (congrArg (World.drewN _) (Nat.add_assoc _ _ _))⟩)) | (go_at_call 86; (with_reducible refine (impl_isValue.calls ((rd_T117 l0 x7_1).f1) true _ A7.out).mono ?_); rintro e w' ⟨rfl, ⟨nd, rfl⟩⟩; (try first | exact ⟨rfl, _, World.drewN_drewN _ _ _⟩ | exact ⟨rfl, _, Eq.trans (World.drewN_drewN _ _ _) (congrArg (World.drewN _) (Nat.add_assoc _ _ _))⟩))); try go_wp2_with (first | ((with_reducible refine gate_dst (N := 4) rfl ?_); refine box_event ?hg (N := 4) ?hd (cs := #[.int .i64 0, .int .i64 0]) (t := 117) ?hr ?_; (case hd => rfl); (case hg => rfl); (case hr => first | (go_simp; done) | (go_simp; rfl)); intro gb150 hg w18 hbox hb; have n0_ := Aside0.mk (below_step (by repeat (first | (with_reducible first | exact HB.out | apply below_alloc | apply pw_below_drewN | apply below_drew1) | exact HB.out)) hb); have n1_ := Aside0.mk (hbox); have n2_ := Aside0.mk ((by rw [hg]; exact (below_size (by repeat (first | (with_reducible first | exact HB.out | apply below_alloc | apply pw_below_drewN | apply below_drew1) | exact HB.out))) : w.heap.size ≤ gb150)); have n3_ := Aside0.mk ((by rw [hg]; exact (below_size (by repeat (first | (with_reducible first | exact HB.out | apply below_alloc | apply pw_below_drewN | apply below_drew1) | exact HB.out))) : w.heap.size ≤ gb150)); clear HB; have HB := n0_; have BK150 := n1_; have GW150 := n2_; have GE150 := n3_; clear n0_ n1_ n2_ n3_; clear hb hbox hg; have hcz19_0 : w18.cell? ⟨gb150, 0, none⟩ = some (.int .i64 0) := (blk_cell BK150.out 0).trans rfl; have hcz19_1 : w18.cell? ⟨gb150, 1, none⟩ = some (.int .i64 0) := (blk_cell BK150.out 1).trans rfl; have hfz19_0 := blk_frozen BK150.out 0; have hfz19_1 := blk_frozen BK150.out 1) | (go_at_call 85; (with_reducible refine (impl_isTime.calls ((rd_T117 l0 x7_1).f0) true _ A5.out).mono ?_); rintro e w' ⟨rfl, ⟨nd, rfl⟩⟩; (try first | exact ⟨rfl, _, World.drewN_drewN _ _ _⟩ | exact ⟨rfl, _, Eq.trans (World.drewN_drewN _ _ _) (congrArg (World.drewN _) (Nat.add_assoc _ _ _))⟩)) | (go_at_call 86; (with_reducible refine (impl_isValue.calls ((rd_T117 l0 x7_1).f1) true _ A7.out).mono ?_); rintro e w' ⟨rfl, ⟨nd, rfl⟩⟩; (try first | exact ⟨rfl, _, World.drewN_drewN _ _ _⟩ | exact ⟨rfl, _, Eq.trans (World.drewN_drewN _ _ _) (congrArg (World.drewN _) (Nat.add_assoc _ _ _))⟩))))
                  go_roundg k1
                  case measure => have := HK1.out; omega
                  case rel => exact ⟨(wrap64 (x7_1 + 1)), (by first | rfl | (simp; done) | (simp [*]; done) | (simp only [my_ne_nil]; rfl)), H', ⟨by have := HK1.out; omega⟩, ⟨by repeat (first | (with_reducible first | exact HB.out | apply below_alloc | apply pw_below_drewN | apply below_drew1 | refine below_set ?_ GE150.out) | exact HB.out)⟩⟩
              · replace c8 := Bool.eq_false_iff.mpr c8
                subst c8
                have H1 : (some false) = some r := by rw [if_neg (show ¬ (false = true) by decide)] at H; exact H
                clear H
                have H := H1
                clear H1
                obtain rfl := Option.some.inj H
                have p149 : 0 ≤ (x7_1 : Int) := of_decide_eq_true (by first | (with_reducible assumption) | assumption)
                have q149 : x7_1 < (l0.length : Int) := of_decide_eq_true (by first | (with_reducible assumption) | assumption)
                obtain ⟨ad149, e149, hx149_0, hx149_1⟩ := at_T117 HR0.out x7_1 p149 q149
                cases e149
                replace hx149_0 := (HB.out.cell (World.block_lt_of_cell? w _ hx149_0)).trans hx149_0
                replace hx149_1 := (HB.out.cell (World.block_lt_of_cell? w _ hx149_1)).trans hx149_1
                replace p149 := eq_true p149
                replace q149 := eq_true q149
                go_wp2_with (first | ((with_reducible refine gate_dst (N := 4) rfl ?_); refine box_event ?hg (N := 4) ?hd (cs := #[.int .i64 0, .int .i64 0]) (t := 117) ?hr ?_; (case hd => rfl); (case hg => rfl); (case hr => first | (go_simp; done) | (go_simp; rfl)); intro gb150 hg w20 hbox hb; have n0_ := Aside0.mk (below_step (by repeat (first | (with_reducible first | exact HB.out | apply below_alloc | apply pw_below_drewN | apply below_drew1) | exact HB.out)) hb); have n1_ := Aside0.mk (hbox); have n2_ := Aside0.mk ((by rw [hg]; exact (below_size (by repeat (first | (with_reducible first | exact HB.out | apply below_alloc | apply pw_below_drewN | apply below_drew1) | exact HB.out))) : w.heap.size ≤ gb150)); have n3_ := Aside0.mk ((by rw [hg]; exact (below_size (by repeat (first | (with_reducible first | exact HB.out | apply below_alloc | apply pw_below_drewN | apply below_drew1) | exact HB.out))) : w.heap.size ≤ gb150)); clear HB; have HB := n0_; have BK150 := n1_; have GW150 := n2_; have GE150 := n3_; clear n0_ n1_ n2_ n3_; clear hb hbox hg; have hcz21_0 : w20.cell? ⟨gb150, 0, none⟩ = some (.int .i64 0) := (blk_cell BK150.out 0).trans rfl; have hcz21_1 : w20.cell? ⟨gb150, 1, none⟩ = some (.int .i64 0) := (blk_cell BK150.out 1).trans rfl; have hfz21_0 := blk_frozen BK150.out 0; have hfz21_1 := blk_frozen BK150.out 1) | (go_at_call 85; (with_reducible refine (impl_isTime.calls ((rd_T117 l0 x7_1).f0) true _ A5.out).mono ?_); rintro e w' ⟨rfl, ⟨nd, rfl⟩⟩; (try first | exact ⟨rfl, _, World.drewN_drewN _ _ _⟩ | exact ⟨rfl, _, Eq.trans (World.drewN_drewN _ _ _) (congrArg (World.drewN _) (Nat.add_assoc _ _ _))⟩)) | (go_at_call 86; (with_reducible refine (impl_isValue.calls ((rd_T117 l0 x7_1).f1) false _ A7.out).mono ?_); rintro e w' ⟨rfl, ⟨nd, rfl⟩⟩; (try first | exact ⟨rfl, _, World.drewN_drewN _ _ _⟩ | exact ⟨rfl, _, Eq.trans (World.drewN_drewN _ _ _) (congrArg (World.drewN _) (Nat.add_assoc _ _ _))⟩)))
                repeat (go_quiet (first | ((with_reducible refine gate_dst (N := 4) rfl ?_); refine box_event ?hg (N := 4) ?hd (cs := #[.int .i64 0, .int .i64 0]) (t := 117) ?hr ?_; (case hd => rfl); (case hg => rfl); (case hr => first | (go_simp; done) | (go_simp; rfl)); intro gb150 hg w20 hbox hb; have n0_ := Aside0.mk (below_step (by repeat (first | (with_reducible first | exact HB.out | apply below_alloc | apply pw_below_drewN | apply below_drew1) | exact HB.out)) hb); have n1_ := Aside0.mk (hbox); have n2_ := Aside0.mk ((by rw [hg]; exact (below_size (by repeat (first | (with_reducible first | exact HB.out | apply below_alloc | apply pw_below_drewN | apply below_drew1) | exact HB.out))) : w.heap.size ≤ gb150)); have n3_ := Aside0.mk ((by rw [hg]; exact (below_size (by repeat (first | (with_reducible first | exact HB.out | apply below_alloc | apply pw_below_drewN | apply below_drew1) | exact HB.out))) : w.heap.size ≤ gb150)); clear HB; have HB := n0_; have BK150 := n1_; have GW150 := n2_; have GE150 := n3_; clear n0_ n1_ n2_ n3_; clear hb hbox hg; have hcz21_0 : w20.cell? ⟨gb150, 0, none⟩ = some (.int .i64 0) := (blk_cell BK150.out 0).trans rfl; have hcz21_1 : w20.cell? ⟨gb150, 1, none⟩ = some (.int .i64 0) := (blk_cell BK150.out 1).trans rfl; have hfz21_0 := blk_frozen BK150.out 0; have hfz21_1 := blk_frozen BK150.out 1) | (go_at_call 85; (with_reducible refine (impl_isTime.calls ((rd_T117 l0 x7_1).f0) true _ A5.out).mono ?_); rintro e w' ⟨rfl, ⟨nd, rfl⟩⟩; (try first | exact ⟨rfl, _, World.drewN_drewN _ _ _⟩ | exact ⟨rfl, _, Eq.trans (World.drewN_drewN _ _ _) (congrArg (World.drewN _) (Nat.add_assoc _ _ _))⟩)) | (go_at_call 86; (with_reducible refine (impl_isValue.calls ((rd_T117 l0 x7_1).f1) false _ A7.out).mono ?_); rintro e w' ⟨rfl, ⟨nd, rfl⟩⟩; (try first | exact ⟨rfl, _, World.drewN_drewN _ _ _⟩ | exact ⟨rfl, _, Eq.trans (World.drewN_drewN _ _ _) (congrArg (World.drewN _) (Nat.add_assoc _ _ _))⟩))); try go_wp2_with (first | ((with_reducible refine gate_dst (N := 4) rfl ?_); refine box_event ?hg (N := 4) ?hd (cs := #[.int .i64 0, .int .i64 0]) (t := 117) ?hr ?_; (case hd => rfl); (case hg => rfl); (case hr => first | (go_simp; done) | (go_simp; rfl)); intro gb150 hg w20 hbox hb; have n0_ := Aside0.mk (below_step (by repeat (first | (with_reducible first | exact HB.out | apply below_alloc | apply pw_below_drewN | apply below_drew1) | exact HB.out)) hb); have n1_ := Aside0.mk (hbox); have n2_ := Aside0.mk ((by rw [hg]; exact (below_size (by repeat (first | (with_reducible first | exact HB.out | apply below_alloc | apply pw_below_drewN | apply below_drew1) | exact HB.out))) : w.heap.size ≤ gb150)); have n3_ := Aside0.mk ((by rw [hg]; exact (below_size (by repeat (first | (with_reducible first | exact HB.out | apply below_alloc | apply pw_below_drewN | apply below_drew1) | exact HB.out))) : w.heap.size ≤ gb150)); clear HB; have HB := n0_; have BK150 := n1_; have GW150 := n2_; have GE150 := n3_; clear n0_ n1_ n2_ n3_; clear hb hbox hg; have hcz21_0 : w20.cell? ⟨gb150, 0, none⟩ = some (.int .i64 0) := (blk_cell BK150.out 0).trans rfl; have hcz21_1 : w20.cell? ⟨gb150, 1, none⟩ = some (.int .i64 0) := (blk_cell BK150.out 1).trans rfl; have hfz21_0 := blk_frozen BK150.out 0; have hfz21_1 := blk_frozen BK150.out 1) | (go_at_call 85; (with_reducible refine (impl_isTime.calls ((rd_T117 l0 x7_1).f0) true _ A5.out).mono ?_); rintro e w' ⟨rfl, ⟨nd, rfl⟩⟩; (try first | exact ⟨rfl, _, World.drewN_drewN _ _ _⟩ | exact ⟨rfl, _, Eq.trans (World.drewN_drewN _ _ _) (congrArg (World.drewN _) (Nat.add_assoc _ _ _))⟩)) | (go_at_call 86; (with_reducible refine (impl_isValue.calls ((rd_T117 l0 x7_1).f1) false _ A7.out).mono ?_); rintro e w' ⟨rfl, ⟨nd, rfl⟩⟩; (try first | exact ⟨rfl, _, World.drewN_drewN _ _ _⟩ | exact ⟨rfl, _, Eq.trans (World.drewN_drewN _ _ _) (congrArg (World.drewN _) (Nat.add_assoc _ _ _))⟩))))
                go_ret
                exact ⟨by first | rfl | (simp [errW_none, errW_some] <;> rfl) | (simp [*, errW_none, errW_some] <;> rfl), by repeat (first | (with_reducible first | exact HB.out | apply below_alloc | apply pw_below_drewN | apply below_drew1 | refine below_set ?_ GE150.out) | exact HB.out)⟩
            · replace c6 := Bool.eq_false_iff.mpr c6
              subst c6
              have H1 : (some false) = some r := by rw [if_neg (show ¬ (false = true) by decide)] at H; exact H
              clear H
              have H := H1
              clear H1
              obtain rfl := Option.some.inj H
              have p149 : 0 ≤ (x7_1 : Int) := of_decide_eq_true (by first | (with_reducible assumption) | assumption)
              have q149 : x7_1 < (l0.length : Int) := of_decide_eq_true (by first | (with_reducible assumption) | assumption)
              obtain ⟨ad149, e149, hx149_0, hx149_1⟩ := at_T117 HR0.out x7_1 p149 q149
              cases e149
              replace hx149_0 := (HB.out.cell (World.block_lt_of_cell? w _ hx149_0)).trans hx149_0
              replace hx149_1 := (HB.out.cell (World.block_lt_of_cell? w _ hx149_1)).trans hx149_1
              replace p149 := eq_true p149
              replace q149 := eq_true q149
              go_wp2_with (first | ((with_reducible refine gate_dst (N := 4) rfl ?_); refine box_event ?hg (N := 4) ?hd (cs := #[.int .i64 0, .int .i64 0]) (t := 117) ?hr ?_; (case hd => rfl); (case hg => rfl); (case hr => first | (go_simp; done) | (go_simp; rfl)); intro gb150 hg w22 hbox hb; have n0_ := Aside0.mk (below_step (by repeat (first | (with_reducible first | exact HB.out | apply below_alloc | apply pw_below_drewN | apply below_drew1) | exact HB.out)) hb); have n1_ := Aside0.mk (hbox); have n2_ := Aside0.mk ((by rw [hg]; exact (below_size (by repeat (first | (with_reducible first | exact HB.out | apply below_alloc | apply pw_below_drewN | apply below_drew1) | exact HB.out))) : w.heap.size ≤ gb150)); have n3_ := Aside0.mk ((by rw [hg]; exact (below_size (by repeat (first | (with_reducible first | exact HB.out | apply below_alloc | apply pw_below_drewN | apply below_drew1) | exact HB.out))) : w.heap.size ≤ gb150)); clear HB; have HB := n0_; have BK150 := n1_; have GW150 := n2_; have GE150 := n3_; clear n0_ n1_ n2_ n3_; clear hb hbox hg; have hcz23_0 : w22.cell? ⟨gb150, 0, none⟩ = some (.int .i64 0) := (blk_cell BK150.out 0).trans rfl; have hcz23_1 : w22.cell? ⟨gb150, 1, none⟩ = some (.int .i64 0) := (blk_cell BK150.out 1).trans rfl; have hfz23_0 := blk_frozen BK150.out 0; have hfz23_1 := blk_frozen BK150.out 1) | (go_at_call 85; (with_reducible refine (impl_isTime.calls ((rd_T117 l0 x7_1).f0) false _ A5.out).mono ?_); rintro e w' ⟨rfl, ⟨nd, rfl⟩⟩; (try first | exact ⟨rfl, _, World.drewN_drewN _ _ _⟩ | exact ⟨rfl, _, Eq.trans (World.drewN_drewN _ _ _) (congrArg (World.drewN _) (Nat.add_assoc _ _ _))⟩)))
              repeat (go_quiet (first | ((with_reducible refine gate_dst (N := 4) rfl ?_); refine box_event ?hg (N := 4) ?hd (cs := #[.int .i64 0, .int .i64 0]) (t := 117) ?hr ?_; (case hd => rfl); (case hg => rfl); (case hr => first | (go_simp; done) | (go_simp; rfl)); intro gb150 hg w22 hbox hb; have n0_ := Aside0.mk (below_step (by repeat (first | (with_reducible first | exact HB.out | apply below_alloc | apply pw_below_drewN | apply below_drew1) | exact HB.out)) hb); have n1_ := Aside0.mk (hbox); have n2_ := Aside0.mk ((by rw [hg]; exact (below_size (by repeat (first | (with_reducible first | exact HB.out | apply below_alloc | apply pw_below_drewN | apply below_drew1) | exact HB.out))) : w.heap.size ≤ gb150)); have n3_ := Aside0.mk ((by rw [hg]; exact (below_size (by repeat (first | (with_reducible first | exact HB.out | apply below_alloc | apply pw_below_drewN | apply below_drew1) | exact HB.out))) : w.heap.size ≤ gb150)); clear HB; have HB := n0_; have BK150 := n1_; have GW150 := n2_; have GE150 := n3_; clear n0_ n1_ n2_ n3_; clear hb hbox hg; have hcz23_0 : w22.cell? ⟨gb150, 0, none⟩ = some (.int .i64 0) := (blk_cell BK150.out 0).trans rfl; have hcz23_1 : w22.cell? ⟨gb150, 1, none⟩ = some (.int .i64 0) := (blk_cell BK150.out 1).trans rfl; have hfz23_0 := blk_frozen BK150.out 0; have hfz23_1 := blk_frozen BK150.out 1) | (go_at_call 85; (with_reducible refine (impl_isTime.calls ((rd_T117 l0 x7_1).f0) false _ A5.out).mono ?_); rintro e w' ⟨rfl, ⟨nd, rfl⟩⟩; (try first | exact ⟨rfl, _, World.drewN_drewN _ _ _⟩ | exact ⟨rfl, _, Eq.trans (World.drewN_drewN _ _ _) (congrArg (World.drewN _) (Nat.add_assoc _ _ _))⟩))); try go_wp2_with (first | ((with_reducible refine gate_dst (N := 4) rfl ?_); refine box_event ?hg (N := 4) ?hd (cs := #[.int .i64 0, .int .i64 0]) (t := 117) ?hr ?_; (case hd => rfl); (case hg => rfl); (case hr => first | (go_simp; done) | (go_simp; rfl)); intro gb150 hg w22 hbox hb; have n0_ := Aside0.mk (below_step (by repeat (first | (with_reducible first | exact HB.out | apply below_alloc | apply pw_below_drewN | apply below_drew1) | exact HB.out)) hb); have n1_ := Aside0.mk (hbox); have n2_ := Aside0.mk ((by rw [hg]; exact (below_size (by repeat (first | (with_reducible first | exact HB.out | apply below_alloc | apply pw_below_drewN | apply below_drew1) | exact HB.out))) : w.heap.size ≤ gb150)); have n3_ := Aside0.mk ((by rw [hg]; exact (below_size (by repeat (first | (with_reducible first | exact HB.out | apply below_alloc | apply pw_below_drewN | apply below_drew1) | exact HB.out))) : w.heap.size ≤ gb150)); clear HB; have HB := n0_; have BK150 := n1_; have GW150 := n2_; have GE150 := n3_; clear n0_ n1_ n2_ n3_; clear hb hbox hg; have hcz23_0 : w22.cell? ⟨gb150, 0, none⟩ = some (.int .i64 0) := (blk_cell BK150.out 0).trans rfl; have hcz23_1 : w22.cell? ⟨gb150, 1, none⟩ = some (.int .i64 0) := (blk_cell BK150.out 1).trans rfl; have hfz23_0 := blk_frozen BK150.out 0; have hfz23_1 := blk_frozen BK150.out 1) | (go_at_call 85; (with_reducible refine (impl_isTime.calls ((rd_T117 l0 x7_1).f0) false _ A5.out).mono ?_); rintro e w' ⟨rfl, ⟨nd, rfl⟩⟩; (try first | exact ⟨rfl, _, World.drewN_drewN _ _ _⟩ | exact ⟨rfl, _, Eq.trans (World.drewN_drewN _ _ _) (congrArg (World.drewN _) (Nat.add_assoc _ _ _))⟩))))
              go_ret
              exact ⟨by first | rfl | (simp [errW_none, errW_some] <;> rfl) | (simp [*, errW_none, errW_some] <;> rfl), by repeat (first | (with_reducible first | exact HB.out | apply below_alloc | apply pw_below_drewN | apply below_drew1 | refine below_set ?_ GE150.out) | exact HB.out)⟩
          · rw [if_neg c4] at H
            exact absurd H (by simp)
        · rw [if_neg c3] at H
          exact absurd H (by simp)
      · rw [if_neg c2] at H
        have c2b0 : decide (x7_1 < (l0.length : Int)) = false := decide_eq_false c2
        clear c2
        obtain rfl := Option.some.inj H
        go_wp2
        repeat (go_quiet (fail); try go_wp2)
        go_ret
        exact ⟨by first | rfl | (simp [errW_none, errW_some] <;> rfl) | (simp [*, errW_none, errW_some] <;> rfl), by repeat (first | (with_reducible first | exact HB.out | apply below_alloc | apply pw_below_drewN | apply below_drew1) | exact HB.out)⟩

end Go.Proofs.Ytipbllegjcedgaa.QFnExactRowsOk
