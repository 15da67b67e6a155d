-- Written by wip/tools/mk.py (this session's program, which runs the kit's print): functions, and proofs that the machine's calls do what they say.
import Derived.Test.YtipbllegjcedgaaQFnExactMatchesLetx0
import Derived.Test.YtipbllegjcedgaaQFnExactMatchesLetx2
namespace Go.Proofs.Ytipbllegjcedgaa.QFnExactMatchesLet
open Go.RowKit Go.Proofs.YtipbllegjcedgaaW.PrintWords Go.Proofs.YtipbllegjcedgaaW.PrintLast Go.Proofs.YtipbllegjcedgaaW.PrintMore
attribute [local go_sem] IntKind.wrap_u8 max2_int min2_int max_two min_two max_three min_three max_four min_four   -- for this text's walks alone
set_option linter.unusedVariables false
set_option linter.unusedSimpArgs false

/-! ### impl_LabelsOk: function 38 -/
def impl_LabelsOk.f (l0 : List Lbl) : Option Bool := if bdL l0 = true then some (labelsB l0) else none
set_option maxHeartbeats 4000000 in
set_option maxRecDepth 100000 in
theorem impl_LabelsOk.calls (A0 : Option Addr) (c0 : Nat) (l0 : List Lbl) (r : Bool) (w : World) (hr0 : Kd.C k52 w A0 l0.length l0) (hc0 : l0.length ≤ c0) (h : impl_LabelsOk.f l0 = some r) :
    Calls Try.prog 38 #[.slice A0 l0.length c0] w fun e w' => e = .returned (.bool r) ∧ Below w.heap.size w w' := by
  unfold impl_LabelsOk.f at h
  split at h
  case isFalse => cases h
  case isTrue hs =>
  have hr := Aside0.mk (Option.some.inj h).symm
  clear h
  have hu := Try.underlying52
  have HR0 := Aside0.mk hr0
  have HC0 := Aside0.mk hc0
  have HS := Aside0.mk hs
  have hN := bdL_len hs
  clear hr0 hc0 hs
  go_enter Try.func38, Try.ntmps38
  go_wp2
  go_loopw [7] (fun v wr => ∃ k : Nat, k ≤ l0.length ∧ v = .int .i64 k ∧ Aside0 (r = (chainP lblR lblLt (prevG l0 z52 k) (l0.drop k) && decide (1 ≤ l0.length ∧ l0.length ≤ 4))) ∧ Aside0 (Below w.heap.size w wr)) (fun v _ => l0.length - (intOf v).toNat)
  case atStart => exact ⟨0, Nat.zero_le _, rfl, ⟨hr.out⟩, ⟨Below.refl _ _⟩⟩
  case round =>
    obtain ⟨k, hk, rfl, HA, HD⟩ := hrel
    by_cases hlt : k < l0.length
    · have c0b : decide ((k : Int) < (l0.length : Int)) = true := decide_eq_true (by omega)
      obtain ⟨ad, e, hx0, hx1⟩ := at_T52 HR0.out (k : Int) (by omega) (by omega)
      cases e
      have e1 : (k : Int).toNat = k := by omega
      have e2 : rd_T52 l0 (k : Int) = l0.getD k z52 := by unfold rd_T52; rw [e1]
      rw [e1, e2] at hx0 hx1
      replace hx0 := (HD.out.cell (World.block_lt_of_cell? w _ hx0)).trans hx0
      replace hx1 := (HD.out.cell (World.block_lt_of_cell? w _ hx1)).trans hx1
      have hmem : l0.getD k z52 ∈ l0 := by rw [getD_at hlt]; exact List.getElem_mem _
      have hb := bdL_at HS.out hmem
      have N1 := Aside0.mk (chainP_no1 lblR lblLt l0 z52 k hlt)
      have N2 := Aside0.mk (chainP_no2 lblR lblLt l0 z52 k hlt)
      have N3 := Aside0.mk (fun h0 : k = 0 => chainP_on0 lblR lblLt l0 z52 (by omega))
      have N4 := Aside0.mk (chainP_on lblR lblLt l0 z52 k hlt)
      clear e1 e2 hmem
      obtain ⟨x, hx⟩ : ∃ x, l0.getD k z52 = x := ⟨_, rfl⟩
      rw [hx] at hx0 hx1 hb N1 N2 N4
      have hR : lblR x = ((lettersB x.f0 6 && (x.f0.toList != [])) && lettersB x.f1 8 && (x.f1.toList != [])) := rfl
      have HX := Aside0.mk hx
      obtain ⟨nm, hnm⟩ : ∃ s, x.f0 = s := ⟨_, rfl⟩
      obtain ⟨wd, hwd⟩ : ∃ s, x.f1 = s := ⟨_, rfl⟩
      have HNM := Aside0.mk hnm
      rw [hnm, hwd] at hR hb
      rw [hnm] at hx0
      rw [hwd] at hx1
      have HRr := Aside0.mk hR
      clear hx hnm hwd hR
      have p : (0 ≤ (k : Int)) = True := eq_true (by omega)
      have q : ((k : Int) < (l0.length : Int)) = True := eq_true (by omega)
      have c1 : ∀ (b : Bool), (lettersB nm 6 && (nm.toList != [])) = b → ∀ w, Calls Try.prog 63 #[.string nm] w fun e w' => e = .returned (.bool b) ∧ Drawn0 w w' := fun b hb' w => impl_isName.calls nm b w (by unfold impl_isName.f; rw [if_pos hb.1, hb'])
      have c2 : ∀ (b : Bool), lettersB wd 8 = b → ∀ w, Calls Try.prog 64 #[.string wd] w fun e w' => e = .returned (.bool b) ∧ Drawn0 w w' := fun b hb' w => impl_isWord.calls wd b w (by unfold impl_isWord.f; rw [if_pos hb.2, hb'])
      clear hb
      cases b1 : (lettersB nm 6 && (nm.toList != []))
      · have C1 := Aside0.mk (c1 false b1)
        have B1 := Aside0.mk b1
        clear c1 c2 b1
        go_wp2_with fail
        go_quiet ((go_at_call 63; exact quiet_D (C1.out _)))
        go_wp2
        go_ret
        exact ⟨by rw [HA.out, N1.out (by rw [HRr.out, B1.out]; rfl)]; rfl, pw_below_drewN (HD.out.alloc (by first | exact HD.out.size | exact Nat.le_refl _) _) _⟩
      have C1 := Aside0.mk (c1 true b1)
      have B1 := Aside0.mk b1
      clear c1 b1
      cases b2 : lettersB wd 8
      · have C2 := Aside0.mk (c2 false b2)
        have B2 := Aside0.mk b2
        clear c2 b2
        go_wp2_with fail
        go_quiet ((first | (go_at_call 63; exact quiet_D (C1.out _)) | (go_at_call 64; exact quiet_D (C2.out _))))
        go_wp2
        go_ret
        exact ⟨by rw [HA.out, N1.out (by rw [HRr.out, B1.out, B2.out]; rfl)]; rfl, pw_below_drewN (HD.out.alloc (by first | exact HD.out.size | exact Nat.le_refl _) _) _⟩
      have C2 := Aside0.mk (c2 true b2)
      have B2 := Aside0.mk b2
      clear c2 b2
      by_cases b3 : wd.toList = ([] : List UInt8)
      · have b3a : (wd.toList == ([] : List UInt8)) = true := beq_iff_eq.mpr b3
        have B3 := Aside0.mk b3
        clear b3
        go_wp2_with fail
        go_quiet ((first | (go_at_call 63; exact quiet_D (C1.out _)) | (go_at_call 64; exact quiet_D (C2.out _))))
        go_wp2
        go_ret
        exact ⟨by rw [HA.out, N1.out (by rw [HRr.out, B1.out, B2.out, B3.out]; rfl)]; rfl, pw_below_drewN (HD.out.alloc (by first | exact HD.out.size | exact Nat.le_refl _) _) _⟩
      have b3a : (wd.toList == ([] : List UInt8)) = false := beq_eq_false_iff_ne.mpr b3
      have BR := Aside0.mk (show lblR x = true by rw [HRr.out, B1.out, B2.out]; simpa using b3)
      clear b3
      by_cases b4 : k = 0
      · have b4a : decide (0 < (k : Int)) = false := decide_eq_false (by omega)
        have b4n : decide (0 < k) = false := decide_eq_false (by omega)
        have B4 := Aside0.mk b4
        clear b4
        go_wp2_with fail
        go_quiet ((first | (go_at_call 63; exact quiet_D (C1.out _)) | (go_at_call 64; exact quiet_D (C2.out _))))
        go_wp2
        go_roundw
        case rel => exact ⟨k + 1, by omega, by go_num, ⟨by have e := N3.out B4.out (by rw [← B4.out, HX.out]; exact BR.out); rw [HA.out]; rw [B4.out]; rw [e]⟩, ⟨pw_below_drewN (HD.out.alloc (by first | exact HD.out.size | exact Nat.le_refl _) _) _⟩⟩
        case measure => simp [intOf]; omega
      obtain ⟨j, hj⟩ : ∃ j : Nat, k = j + 1 := ⟨k - 1, by omega⟩
      have b4a : decide (0 < (k : Int)) = true := decide_eq_true (by omega)
      have b4n : decide (0 < k) = true := decide_eq_true (by omega)
      have jw : IntKind.i64.wrap ((k : Int) - 1) = (j : Int) := by rw [IntWalk.i64_in _ (by omega)]; omega
      have p2 : (0 ≤ (j : Int)) = True := eq_true (by omega)
      have q2 : ((j : Int) < (l0.length : Int)) = True := eq_true (by omega)
      obtain ⟨ad2, e, hy0, hy1⟩ := at_T52 HR0.out (j : Int) (by omega) (by omega)
      obtain rfl : ad = ad2 := by injection e
      have e1 : (j : Int).toNat = j := by omega
      have e2 : rd_T52 l0 (j : Int) = l0.getD (k - 1) z52 := by unfold rd_T52; rw [e1, hj]; rfl
      rw [e1, e2] at hy0
      replace hy0 := (HD.out.cell (World.block_lt_of_cell? w _ hy0)).trans hy0
      clear e e1 e2 hy1 b4
      obtain ⟨y, hy⟩ : ∃ y, l0.getD (k - 1) z52 = y := ⟨_, rfl⟩
      rw [hy] at hy0 N2 N4
      have HY := Aside0.mk hy
      obtain ⟨pn, hpn⟩ : ∃ s, y.f0 = s := ⟨_, rfl⟩
      have HPN := Aside0.mk hpn
      rw [hpn] at hy0
      have hya : ∀ o, (wr.alloc o).cell? (ad.add (j * 2)) = some (.string pn) := fun o => (Below.cell ((Below.refl _ wr).alloc (Nat.le_refl _) o) (World.block_lt_of_cell? wr _ hy0)).trans hy0
      have HJ := Aside0.mk hj
      clear hy hpn hj
      have hl : lblLt y x = Op.bytesLess pn.toList nm.toList := by unfold lblLt; rw [HPN.out, HNM.out]
      have HL := Aside0.mk hl
      clear hl
      cases b5 : Op.bytesLess pn.toList nm.toList
      · have B5 := Aside0.mk b5
        go_wp2_with fail
        go_quiet ((first | (go_at_call 63; exact quiet_D (C1.out _)) | (go_at_call 64; exact quiet_D (C2.out _))))
        go_wp2
        go_ret
        exact ⟨by rw [HA.out, N2.out (by have := HJ.out; omega) (HL.out.trans B5.out)]; rfl, pw_below_drewN (HD.out.alloc (by first | exact HD.out.size | exact Nat.le_refl _) _) _⟩
      · have B5 := Aside0.mk b5
        go_wp2_with fail
        go_quiet ((first | (go_at_call 63; exact quiet_D (C1.out _)) | (go_at_call 64; exact quiet_D (C2.out _))))
        go_wp2
        go_roundw
        case rel => exact ⟨k + 1, by omega, by go_num, ⟨by rw [HA.out, N4.out (by have := HJ.out; omega) BR.out (HL.out.trans B5.out)]⟩, ⟨pw_below_drewN (HD.out.alloc (by first | exact HD.out.size | exact Nat.le_refl _) _) _⟩⟩
        case measure => simp [intOf]; omega
    · have c0b : decide ((k : Int) < (l0.length : Int)) = false := decide_eq_false (by omega)
      have HE := Aside0.mk (chainP_end lblR lblLt l0 (prevG l0 z52 k) k (by omega))
      by_cases c1 : 1 ≤ l0.length
      · have c1a : decide (1 ≤ (l0.length : Int)) = true := decide_eq_true (by omega)
        by_cases c2 : l0.length ≤ 4
        · have c2a : decide ((l0.length : Int) ≤ 4) = true := decide_eq_true (by omega)
          have C := Aside0.mk (decide_eq_true (show 1 ≤ l0.length ∧ l0.length ≤ 4 from ⟨c1, c2⟩))
          clear c1 c2
          go_wp2
          repeat (go_quiet (fail); try go_wp2)
          go_ret
          exact ⟨by rw [HA.out, HE.out, C.out]; rfl, HD.out⟩
        · have c2a : decide ((l0.length : Int) ≤ 4) = false := decide_eq_false (by omega)
          have C := Aside0.mk (decide_eq_false (show ¬ (1 ≤ l0.length ∧ l0.length ≤ 4) from fun h => c2 h.2))
          clear c1 c2
          go_wp2
          repeat (go_quiet (fail); try go_wp2)
          go_ret
          exact ⟨by rw [HA.out, HE.out, C.out]; rfl, HD.out⟩
      · have c1a : decide (1 ≤ (l0.length : Int)) = false := decide_eq_false (by omega)
        have C := Aside0.mk (decide_eq_false (show ¬ (1 ≤ l0.length ∧ l0.length ≤ 4) from fun h => c1 h.1))
        clear c1
        go_wp2
        repeat (go_quiet (fail); try go_wp2)
        go_ret
        exact ⟨by rw [HA.out, HE.out, C.out]; rfl, HD.out⟩

/-! ### impl_Match: function 74 -/
set_option maxHeartbeats 2000000 in
set_option maxRecDepth 100000 in
theorem indexMatch.calls (g : Nat) (cap : Array Value) (fn : Func) (hf : Try.prog.funcs[g]? = some fn) (hname : (fn.name == "runtime.NumGoroutine") = false) (hbody : fn.body.isSome = true) (P : Mch → Bool)
    (A0 : Option Addr) (c0 : Nat) (l0 : List Mch) (w : World) (hg : ∀ x ∈ l0, ∀ (W : World), Below w.heap.size w W → Calls Try.prog g (#[mchA x] ++ cap) W fun e w' => e = .returned (.bool (P x)) ∧ Below W.heap.size W w')
    (hr0 : Kd.C k48 w A0 l0.length l0) (hc0 : l0.length ≤ c0) (hN : l0.length < 9223372036854775807) :
    Calls Try.prog 93 #[.slice A0 l0.length c0, .func (.func g) #[] cap] w fun e w' => (∃ j : Int, e = .returned (.int .i64 j) ∧ decide (0 ≤ j) = l0.any P) ∧ Below w.heap.size w w' := by
  obtain ⟨r, hr⟩ : ∃ r, l0.any P = r := ⟨_, rfl⟩
  rw [hr]
  have HR := Aside0.mk hr
  have HG := Aside0.mk hg
  have HF := Aside0.mk hf
  have HNM := Aside0.mk hname
  have HY := Aside0.mk hbody
  have HR0 := Aside0.mk hr0
  have hu := Try.underlying48
  clear hr hg hf hname hbody hr0 hc0
  go_enter Try.func93, Try.ntmps93
  go_wp2
  go_loopw [8] (fun v wr => ∃ k : Nat, k ≤ l0.length ∧ v = .int .i64 k ∧ Aside0 (r = (l0.drop k).any P) ∧ Aside0 (Below w.heap.size w wr)) (fun v _ => l0.length - (intOf v).toNat)
  case atStart => exact ⟨0, Nat.zero_le _, rfl, ⟨by rw [List.drop_zero]; exact HR.out.symm⟩, ⟨Below.refl _ _⟩⟩
  case round =>
    clear HR
    obtain ⟨k, hk, rfl, HA, HD⟩ := hrel
    by_cases hlt : k < l0.length
    · have c0b : decide ((k : Int) < (l0.length : Int)) = true := decide_eq_true (by omega)
      obtain ⟨ad, e, hx0, hx1, hx2⟩ := at_T48 HR0.out (k : Int) (by omega) (by omega)
      cases e
      have e1 : (k : Int).toNat = k := by omega
      have e2 : rd_T48 l0 (k : Int) = l0.getD k z48 := by unfold rd_T48; rw [e1]
      rw [e1, e2] at hx0 hx1 hx2
      replace hx0 := (HD.out.cell (World.block_lt_of_cell? w _ hx0)).trans hx0
      replace hx1 := (HD.out.cell (World.block_lt_of_cell? w _ hx1)).trans hx1
      replace hx2 := (HD.out.cell (World.block_lt_of_cell? w _ hx2)).trans hx2
      have hmem : l0.getD k z48 ∈ l0 := by simp [List.getD, hlt]
      have E := Aside0.mk (any_step P l0 z48 k hlt)
      have HM := Aside0.mk hmem
      clear e1 e2 hmem
      obtain ⟨x, hx⟩ : ∃ x, l0.getD k z48 = x := ⟨_, rfl⟩
      rw [hx] at hx0 hx1 hx2 E HM
      clear hx
      have p : (0 ≤ (k : Int)) = True := eq_true (by omega)
      have q : ((k : Int) < (l0.length : Int)) = True := eq_true (by omega)
      cases hP : P x
      · have HP := Aside0.mk hP
        clear hP
        go_wp2_with (refine goesV_ (some 16) rfl rfl rfl rfl HF.out HNM.out HY.out (#[mchA x] ++ cap) (by simp only [List.map_toArray, List.map_cons, List.map_nil]; rfl) ?_; refine (HG.out x HM.out _ HD.out).mono ?_; rintro e w' ⟨rfl, hb⟩; rw [HP.out]; refine ⟨_, rfl, ?_⟩; have HB := Aside0.mk hb; clear hb)
        go_roundw
        case rel => exact ⟨k + 1, by omega, by go_num, ⟨by rw [HA.out, E.out, HP.out]; rfl⟩, ⟨below_step HD.out HB.out⟩⟩
        case measure => simp [intOf]; omega
      · have HP := Aside0.mk hP
        clear hP
        go_wp2_with (refine goesV_ (some 16) rfl rfl rfl rfl HF.out HNM.out HY.out (#[mchA x] ++ cap) (by simp only [List.map_toArray, List.map_cons, List.map_nil]; rfl) ?_; refine (HG.out x HM.out _ HD.out).mono ?_; rintro e w' ⟨rfl, hb⟩; rw [HP.out]; refine ⟨_, rfl, ?_⟩; have HB := Aside0.mk hb; clear hb)
        go_ret
        exact ⟨⟨_, rfl, by rw [HA.out, E.out, HP.out]; simp⟩, below_step HD.out HB.out⟩
    · have c0b : decide ((k : Int) < (l0.length : Int)) = false := decide_eq_false (by omega)
      have E := Aside0.mk (show (l0.drop k).any P = false by rw [List.drop_eq_nil_of_le (by omega)]; rfl)
      go_wp2
      go_ret
      exact ⟨⟨_, rfl, by rw [HA.out, E.out]; rfl⟩, HD.out⟩
set_option maxHeartbeats 2000000 in
set_option maxRecDepth 100000 in
theorem containsMatch.calls (g : Nat) (cap : Array Value) (fn : Func) (hf : Try.prog.funcs[g]? = some fn) (hname : (fn.name == "runtime.NumGoroutine") = false) (hbody : fn.body.isSome = true) (P : Mch → Bool)
    (A0 : Option Addr) (c0 : Nat) (l0 : List Mch) (w : World) (hg : ∀ x ∈ l0, ∀ (W : World), Below w.heap.size w W → Calls Try.prog g (#[mchA x] ++ cap) W fun e w' => e = .returned (.bool (P x)) ∧ Below W.heap.size W w')
    (hr0 : Kd.C k48 w A0 l0.length l0) (hc0 : l0.length ≤ c0) (hN : l0.length < 9223372036854775807) :
    Calls Try.prog 74 #[.slice A0 l0.length c0, .func (.func g) #[] cap] w fun e w' => e = .returned (.bool (l0.any P)) ∧ Below w.heap.size w w' := by
  have C := Aside0.mk (indexMatch.calls g cap fn hf hname hbody P A0 c0 l0 w hg hr0 hc0 hN)
  clear hg hf hname hbody hr0
  obtain ⟨r, hr⟩ : ∃ r, l0.any P = r := ⟨_, rfl⟩
  obtain ⟨n0, hn0⟩ : ∃ n, l0.length = n := ⟨_, rfl⟩
  rw [hr, hn0] at C
  rw [hr, hn0]
  clear hr hn0 hc0 hN
  go_enter Try.func74, Try.ntmps74
  go_wp2_with (refine goesL_ (some 7) rfl rfl Try.func93 (by kernel_rfl) rfl #[.slice A0 n0 c0, .func (.func g) #[] cap] rfl (by simp only [List.map_toArray, List.map_cons, List.map_nil]; rfl) ?_; refine C.out.mono ?_; rintro e w' ⟨⟨j, rfl, hj⟩, hb⟩; refine ⟨_, rfl, ?_⟩)
  go_ret
  exact ⟨rfl, hb⟩

/-! ### impl_lettingOf: function 76 -/
def impl_lettingOf.f : Unit := ()
set_option maxHeartbeats 2000000 in
set_option maxRecDepth 100000 in
theorem impl_lettingOf.calls (a : Int) (b c : ByteArray) (w : World) : Calls Try.prog 76 #[.agg #[.int .i64 a, .string b, .string c]] w fun e w' => e = .returned (letV a c) ∧ Below w.heap.size w w' := by
  obtain ⟨v, hv⟩ : ∃ v, letV a c = v := ⟨_, rfl⟩
  rw [hv]
  have HV := Aside0.mk hv
  clear hv
  have hu := Try.underlying48
  by_cases h1 : a = 1
  · have c1 : (a == 1) = true := beq_iff_eq.mpr h1
    have E := Aside0.mk (show letV a c = .iface 125 (.agg #[.string c]) by unfold letV; rw [if_pos h1])
    clear h1
    go_enter Try.func76, Try.ntmps76
    go_wp2
    go_ret
    exact ⟨by rw [← HV.out, E.out]; rfl, (Below.refl _ _).alloc (Nat.le_refl _) _⟩
  have c1 : (a == 1) = false := beq_eq_false_iff_ne.mpr h1
  by_cases h2 : a = 2
  · have c2 : (a == 2) = true := beq_iff_eq.mpr h2
    have E := Aside0.mk (show letV a c = .iface 126 (.agg #[.string c]) by unfold letV; rw [if_neg h1, if_pos h2])
    clear h1 h2
    go_enter Try.func76, Try.ntmps76
    go_wp2
    go_ret
    exact ⟨by rw [← HV.out, E.out]; rfl, (Below.refl _ _).alloc (Nat.le_refl _) _⟩
  have c2 : (a == 2) = false := beq_eq_false_iff_ne.mpr h2
  by_cases h3 : a = 3
  · have c3 : (a == 3) = true := beq_iff_eq.mpr h3
    have E := Aside0.mk (show letV a c = .iface 127 (.agg #[.string c]) by unfold letV; rw [if_neg h1, if_neg h2, if_pos h3])
    clear h1 h2 h3
    go_enter Try.func76, Try.ntmps76
    go_wp2
    go_ret
    exact ⟨by rw [← HV.out, E.out]; rfl, (Below.refl _ _).alloc (Nat.le_refl _) _⟩
  have c3 : (a == 3) = false := beq_eq_false_iff_ne.mpr h3
  by_cases h4 : a = 4
  · have c4 : (a == 4) = true := beq_iff_eq.mpr h4
    have E := Aside0.mk (show letV a c = .iface 128 (.agg #[.string c]) by unfold letV; rw [if_neg h1, if_neg h2, if_neg h3, if_pos h4])
    clear h1 h2 h3 h4
    go_enter Try.func76, Try.ntmps76
    go_wp2
    go_ret
    exact ⟨by rw [← HV.out, E.out]; rfl, (Below.refl _ _).alloc (Nat.le_refl _) _⟩
  have c4 : (a == 4) = false := beq_eq_false_iff_ne.mpr h4
  have E := Aside0.mk (show letV a c = .nilIface by unfold letV; rw [if_neg h1, if_neg h2, if_neg h3, if_neg h4])
  clear h1 h2 h3 h4
  go_enter Try.func76, Try.ntmps76
  go_wp2
  go_ret
  exact ⟨by rw [← HV.out, E.out]; rfl, (Below.refl _ _).alloc (Nat.le_refl _) _⟩

/-! ### impl_MatchesOk: function 52 -/
theorem letV_some (k : Int) (c : ByteArray) (h : 1 ≤ k ∧ k ≤ 4) : ∃ t v, letV k c = .iface t v := by
  unfold letV
  by_cases h1 : k = 1
  · exact ⟨_, _, if_pos h1⟩
  rw [if_neg h1]
  by_cases h2 : k = 2
  · exact ⟨_, _, if_pos h2⟩
  rw [if_neg h2]
  by_cases h3 : k = 3
  · exact ⟨_, _, if_pos h3⟩
  rw [if_neg h3, if_pos (by omega)]
  exact ⟨_, _, rfl⟩
theorem letV_none (k : Int) (c : ByteArray) (h : ¬ (1 ≤ k ∧ k ≤ 4)) : letV k c = .nilIface := by
  unfold letV
  rw [if_neg (by omega), if_neg (by omega), if_neg (by omega), if_neg (by omega)]
def impl_MatchesOk.f (l0 : List Mch) : Option Bool := if bdM l0 = true then some (mchsB l0) else none
set_option maxHeartbeats 2000000 in
set_option maxRecDepth 100000 in
theorem badMatch.calls (x : Mch) (h1 : x.f1.size < 9223372036854775807) (h2 : x.f2.size < 9223372036854775807) (w : World) : Calls Try.prog 75 #[mchA x] w fun e w' => e = .returned (.bool (!mchB x)) ∧ Below w.heap.size w w' := by
  obtain ⟨kd, nm, wd⟩ := x
  have hu := Try.underlying48
  have c1 : ∀ (b : Bool), (lettersB nm 6 && (nm.toList != [])) = b → ∀ w, Calls Try.prog 63 #[.string nm] w fun e w' => e = .returned (.bool b) ∧ Drawn0 w w' := fun b hb' w => impl_isName.calls nm b w (by unfold impl_isName.f; rw [if_pos h1, hb'])
  have c2 : ∀ (b : Bool), lettersB wd 8 = b → ∀ w, Calls Try.prog 64 #[.string wd] w fun e w' => e = .returned (.bool b) ∧ Drawn0 w w' := fun b hb' w => impl_isWord.calls wd b w (by unfold impl_isWord.f; rw [if_pos h2, hb'])
  have hm : mchB ⟨kd, nm, wd⟩ = ((decide (1 ≤ kd) && decide (kd ≤ 4)) && (lettersB nm 6 && (nm.toList != [])) && lettersB wd 8) := rfl
  rw [hm]
  show Calls Try.prog 75 #[.agg #[.int .i64 kd, .string nm, .string wd]] w _
  have hL : ∀ w, Calls Try.prog 76 #[.agg #[.int .i64 kd, .string nm, .string wd]] w fun e w' => e = .returned (letV kd wd) ∧ Below w.heap.size w w' := fun w => impl_lettingOf.calls kd nm wd w
  clear h1 h2 hm
  obtain ⟨r, hr⟩ : ∃ r, (!((decide (1 ≤ kd) && decide (kd ≤ 4)) && (lettersB nm 6 && (nm.toList != [])) && lettersB wd 8)) = r := ⟨_, rfl⟩
  rw [hr]
  have HR := Aside0.mk hr
  clear hr
  by_cases hk : 1 ≤ kd ∧ kd ≤ 4
  · have K1 := Aside0.mk (show (decide (1 ≤ kd) && decide (kd ≤ 4)) = true by rw [decide_eq_true hk.1, decide_eq_true hk.2]; rfl)
    obtain ⟨t, v, e⟩ := letV_some kd wd hk
    rw [e] at hL
    have CL := Aside0.mk hL
    clear hL e hk
    cases b1 : (lettersB nm 6 && (nm.toList != []))
    · have C1 := Aside0.mk (c1 false b1)
      have B1 := Aside0.mk b1
      clear c1 c2 b1
      go_enter Try.func75, Try.ntmps75
      go_wp2_with (first | (go_at_call 76; refine (CL.out _).mono ?_; rintro e w' ⟨rfl, hb⟩; have b_ := blk_below (blk_new w (Obj.cells #[.int .i64 kd, .string nm, .string wd] 48)) hb; have d1 : w'.cell? ⟨w.heap.size, 1, none⟩ = some (.string nm) := blk_cell b_ 1; have d2 : w'.cell? ⟨w.heap.size, 2, none⟩ = some (.string wd) := blk_cell b_ 2; have HB := Aside0.mk (below_step ((Below.refl _ w).alloc (Nat.le_refl _) _) hb); clear hb b_) | (go_at_call 63; refine (C1.out _).mono ?_; rintro e w'' ⟨rfl, ⟨nd, rfl⟩⟩))
      go_ret
      exact ⟨by rw [← HR.out, K1.out, B1.out]; rfl, by first | exact HB.out | exact pw_below_drewN HB.out _⟩
    · have C1 := Aside0.mk (c1 true b1)
      have B1 := Aside0.mk b1
      clear c1 b1
      cases b2 : lettersB wd 8
      · have C2 := Aside0.mk (c2 false b2)
        have B2 := Aside0.mk b2
        clear c2 b2
        go_enter Try.func75, Try.ntmps75
        go_wp2_with (first | (go_at_call 76; refine (CL.out _).mono ?_; rintro e w' ⟨rfl, hb⟩; have b_ := blk_below (blk_new w (Obj.cells #[.int .i64 kd, .string nm, .string wd] 48)) hb; have d1 : w'.cell? ⟨w.heap.size, 1, none⟩ = some (.string nm) := blk_cell b_ 1; have d2 : w'.cell? ⟨w.heap.size, 2, none⟩ = some (.string wd) := blk_cell b_ 2; have HB := Aside0.mk (below_step ((Below.refl _ w).alloc (Nat.le_refl _) _) hb); clear hb b_) | (go_at_call 63; refine (C1.out _).mono ?_; rintro e w'' ⟨rfl, ⟨nd, rfl⟩⟩) | (go_at_call 64; refine (C2.out _).mono ?_; rintro e w'' ⟨rfl, ⟨nd2, rfl⟩⟩))
        go_ret
        exact ⟨by rw [← HR.out, K1.out, B1.out, B2.out]; rfl, by first | exact HB.out | exact pw_below_drewN HB.out _⟩
      · have C2 := Aside0.mk (c2 true b2)
        have B2 := Aside0.mk b2
        clear c2 b2
        go_enter Try.func75, Try.ntmps75
        go_wp2_with (first | (go_at_call 76; refine (CL.out _).mono ?_; rintro e w' ⟨rfl, hb⟩; have b_ := blk_below (blk_new w (Obj.cells #[.int .i64 kd, .string nm, .string wd] 48)) hb; have d1 : w'.cell? ⟨w.heap.size, 1, none⟩ = some (.string nm) := blk_cell b_ 1; have d2 : w'.cell? ⟨w.heap.size, 2, none⟩ = some (.string wd) := blk_cell b_ 2; have HB := Aside0.mk (below_step ((Below.refl _ w).alloc (Nat.le_refl _) _) hb); clear hb b_) | (go_at_call 63; refine (C1.out _).mono ?_; rintro e w'' ⟨rfl, ⟨nd, rfl⟩⟩) | (go_at_call 64; refine (C2.out _).mono ?_; rintro e w'' ⟨rfl, ⟨nd2, rfl⟩⟩))
        go_ret
        exact ⟨by rw [← HR.out, K1.out, B1.out, B2.out]; rfl, by first | exact HB.out | exact pw_below_drewN HB.out _⟩
  · have K1 := Aside0.mk (show (decide (1 ≤ kd) && decide (kd ≤ 4)) = false by
      by_cases h1 : 1 ≤ kd
      · rw [decide_eq_true h1, decide_eq_false (by omega)]; rfl
      · rw [decide_eq_false h1]; rfl)
    rw [letV_none kd wd hk] at hL
    have CL := Aside0.mk hL
    clear hL hk c1 c2
    go_enter Try.func75, Try.ntmps75
    go_wp2_with (go_at_call 76; refine (CL.out _).mono ?_; rintro e w' ⟨rfl, hb⟩; have b_ := blk_below (blk_new w (Obj.cells #[.int .i64 kd, .string nm, .string wd] 48)) hb; have d1 : w'.cell? ⟨w.heap.size, 1, none⟩ = some (.string nm) := blk_cell b_ 1; have d2 : w'.cell? ⟨w.heap.size, 2, none⟩ = some (.string wd) := blk_cell b_ 2; have HB := Aside0.mk (below_step ((Below.refl _ w).alloc (Nat.le_refl _) _) hb); clear hb b_)
    go_ret
    exact ⟨by rw [← HR.out, K1.out]; rfl, by first | exact HB.out | exact pw_below_drewN HB.out _⟩
set_option maxHeartbeats 2000000 in
set_option maxRecDepth 100000 in
theorem impl_MatchesOk.calls (A0 : Option Addr) (c0 : Nat) (l0 : List Mch) (r : Bool) (w : World) (hr0 : Kd.C k48 w A0 l0.length l0) (hc0 : l0.length ≤ c0) (h : impl_MatchesOk.f l0 = some r) :
    Calls Try.prog 52 #[.slice A0 l0.length c0] w fun e w' => e = .returned (.bool r) ∧ Below w.heap.size w w' := by
  unfold impl_MatchesOk.f at h
  split at h
  case isFalse => cases h
  case isTrue hs =>
  have hr := Aside0.mk (Option.some.inj h).symm
  clear h
  have hN := bdM_len hs
  have C := Aside0.mk (fun W (hB : Below w.heap.size w W) => containsMatch.calls 75 #[] Try.f75 Try.func75 (by kernel_rfl) (by kernel_rfl) (fun x => !mchB x) A0 c0 l0 W (fun x hx W' _ => badMatch.calls x (bdM_at hs hx).1 (bdM_at hs hx).2 W') (Kd.C_below hr0 hB) hc0 hN)
  clear hr0 hs
  have E := Aside0.mk (show mchsB l0 = (decide (l0.length ≤ 4) && !(l0.any fun x => !mchB x)) by unfold mchsB; rw [← List.all_eq_not_any_not])
  obtain ⟨q, hq⟩ : ∃ q, (l0.any fun x => !mchB x) = q := ⟨_, rfl⟩
  obtain ⟨n0, hn0⟩ : ∃ n, l0.length = n := ⟨_, rfl⟩
  rw [hq, hn0] at C E
  rw [hn0]
  clear hn0 hq hc0 hN
  by_cases hlt : n0 ≤ 4
  · have c1 : decide ((n0 : Int) ≤ 4) = true := decide_eq_true (by omega)
    have c2 : decide (n0 ≤ 4) = true := decide_eq_true hlt
    have L := Aside0.mk c2
    clear hlt
    go_enter Try.func52, Try.ntmps52
    go_wp2_with (go_at_call 74; refine (C.out _ (Below.refl _ _)).mono ?_; rintro e w' ⟨rfl, hb⟩)
    go_ret
    exact ⟨by rw [hr.out, E.out, L.out]; rfl, hb⟩
  · have c1 : decide ((n0 : Int) ≤ 4) = false := decide_eq_false (by omega)
    have c2 : decide (n0 ≤ 4) = false := decide_eq_false hlt
    have L := Aside0.mk c2
    clear hlt
    go_enter Try.func52, Try.ntmps52
    go_wp2
    go_ret
    exact ⟨by rw [hr.out, E.out, L.out]; rfl, Below.refl _ _⟩

/-! ### impl_lets: function 80 -/
def impl_lets.f : Unit := ()
set_option maxHeartbeats 2000000 in
set_option maxRecDepth 100000 in
theorem impl_lets.calls (a : Int) (c b : ByteArray) (h1 : 1 ≤ a) (h4 : a ≤ 4) (w : World) : Calls Try.prog 80 #[letV a c, .string b] w fun e w' => e = .returned (.bool (letB a c b)) ∧ Below w.heap.size w w' := by
  obtain ⟨v, hv⟩ : ∃ v, letB a c b = v := ⟨_, rfl⟩
  rw [hv]
  have HV := Aside0.mk hv
  clear hv
  have hu1 := Try.underlying125
  have hu2 := Try.underlying126
  have hu3 := Try.underlying127
  have hu4 := Try.underlying128
  by_cases c1 : a = 1
  · subst c1
    have E := Aside0.mk (show letB 1 c b = (b.toList == c.toList) from rfl)
    show Calls Try.prog 80 #[.iface 125 (.agg #[.string c]), .string b] w _
    have ta0 : ∀ (v : Value) (W : World), (Instr.typeAssert (.iface 125 v) 108 125 true).run Try.prog W = .ok (.tuple #[v, .bool true]) W := fun v W => by rfl
    go_enter Try.func80, Try.ntmps80
    go_wp2
    go_ret
    exact ⟨by rw [← HV.out, E.out]; rfl, (Below.refl _ _).alloc (Nat.le_refl _) _⟩
  by_cases c2 : a = 2
  · subst c2
    have E := Aside0.mk (show letB 2 c b = (!(b.toList == c.toList)) from rfl)
    show Calls Try.prog 80 #[.iface 126 (.agg #[.string c]), .string b] w _
    have ta0 : ∀ (v : Value) (W : World), (Instr.typeAssert (.iface 126 v) 108 125 true).run Try.prog W = .ok (.tuple #[.agg #[.string ⟨#[]⟩], .bool false]) W := fun v W => by rfl
    have ta1 : ∀ (v : Value) (W : World), (Instr.typeAssert (.iface 126 v) 108 126 true).run Try.prog W = .ok (.tuple #[v, .bool true]) W := fun v W => by rfl
    go_enter Try.func80, Try.ntmps80
    go_wp2
    go_ret
    exact ⟨by rw [← HV.out, E.out]; rfl, (Below.refl _ _).alloc (Nat.le_refl _) _⟩
  by_cases c3 : a = 3
  · subst c3
    have E := Aside0.mk (show letB 3 c b = preB b c from rfl)
    show Calls Try.prog 80 #[.iface 127 (.agg #[.string c]), .string b] w _
    have ta0 : ∀ (v : Value) (W : World), (Instr.typeAssert (.iface 127 v) 108 125 true).run Try.prog W = .ok (.tuple #[.agg #[.string ⟨#[]⟩], .bool false]) W := fun v W => by rfl
    have ta1 : ∀ (v : Value) (W : World), (Instr.typeAssert (.iface 127 v) 108 126 true).run Try.prog W = .ok (.tuple #[.agg #[.string ⟨#[]⟩], .bool false]) W := fun v W => by rfl
    have ta2 : ∀ (v : Value) (W : World), (Instr.typeAssert (.iface 127 v) 108 127 true).run Try.prog W = .ok (.tuple #[v, .bool true]) W := fun v W => by rfl
    go_enter Try.func80, Try.ntmps80
    by_cases hp : c.size ≤ b.size
    · have p1 : decide ((c.size : Int) ≤ (b.size : Int)) = true := decide_eq_true (by omega)
      have p2 : decide (c.size ≤ b.size) = true := decide_eq_true hp
      have P := Aside0.mk p2
      go_wp2
      go_ret
      exact ⟨by rw [← HV.out, E.out, preB, P.out, Bool.true_and]; rfl, (Below.refl _ _).alloc (Nat.le_refl _) _⟩
    · have p1 : decide ((c.size : Int) ≤ (b.size : Int)) = false := decide_eq_false (by omega)
      have p2 : decide (c.size ≤ b.size) = false := decide_eq_false hp
      have P := Aside0.mk p2
      go_wp2
      go_ret
      exact ⟨by rw [← HV.out, E.out, preB, P.out, Bool.false_and]; rfl, (Below.refl _ _).alloc (Nat.le_refl _) _⟩
  · obtain rfl : a = 4 := by omega
    have E := Aside0.mk (show letB 4 c b = !preB b c from rfl)
    show Calls Try.prog 80 #[.iface 128 (.agg #[.string c]), .string b] w _
    have ta0 : ∀ (v : Value) (W : World), (Instr.typeAssert (.iface 128 v) 108 125 true).run Try.prog W = .ok (.tuple #[.agg #[.string ⟨#[]⟩], .bool false]) W := fun v W => by rfl
    have ta1 : ∀ (v : Value) (W : World), (Instr.typeAssert (.iface 128 v) 108 126 true).run Try.prog W = .ok (.tuple #[.agg #[.string ⟨#[]⟩], .bool false]) W := fun v W => by rfl
    have ta2 : ∀ (v : Value) (W : World), (Instr.typeAssert (.iface 128 v) 108 127 true).run Try.prog W = .ok (.tuple #[.agg #[.string ⟨#[]⟩], .bool false]) W := fun v W => by rfl
    have hm : ∀ (v : Value) (W : World), (method 250 128 v "loop.example/almanack/impl.word").run Try.prog W = .ok (122, v) W := fun v W => by rfl
    go_enter Try.func80, Try.ntmps80
    by_cases hp : c.size ≤ b.size
    · have p1 : decide ((c.size : Int) ≤ (b.size : Int)) = true := decide_eq_true (by omega)
      have p2 : decide (c.size ≤ b.size) = true := decide_eq_true hp
      have P := Aside0.mk p2
      go_wp2
      go_ret
      exact ⟨by rw [← HV.out, E.out, preB, P.out, Bool.true_and]; rfl, (Below.refl _ _).alloc (Nat.le_refl _) _⟩
    · have p1 : decide ((c.size : Int) ≤ (b.size : Int)) = false := decide_eq_false (by omega)
      have p2 : decide (c.size ≤ b.size) = false := decide_eq_false hp
      have P := Aside0.mk p2
      go_wp2
      go_ret
      exact ⟨by rw [← HV.out, E.out, preB, P.out, Bool.false_and]; rfl, (Below.refl _ _).alloc (Nat.le_refl _) _⟩

/-! ### impl_wordOf: function 81 -/
def impl_wordOf.f (l0 : List Lbl) (a1 : ByteArray) : Option ByteArray := if l0.length < 9223372036854775807 then some (wordL l0 a1) else none
set_option maxHeartbeats 2000000 in
set_option maxRecDepth 100000 in
theorem impl_wordOf.calls (A0 : Option Addr) (c0 : Nat) (l0 : List Lbl) (a1 : ByteArray) (r : ByteArray) (w : World) (hr0 : Kd.C k52 w A0 l0.length l0) (hc0 : l0.length ≤ c0) (h : impl_wordOf.f l0 a1 = some r) :
    Calls Try.prog 81 #[.slice A0 l0.length c0, .string a1] w fun e w' => e = .returned (.string r) ∧ Below w.heap.size w w' := by
  unfold impl_wordOf.f at h
  split at h
  case isFalse => cases h
  case isTrue hN =>
  have hr := Aside0.mk (Option.some.inj h).symm
  have hu := Try.underlying52
  have HR0 := Aside0.mk hr0
  clear h hr0 hc0
  go_enter Try.func81, Try.ntmps81
  go_wp2
  go_loopw [9] (fun v wr => ∃ k : Nat, k ≤ l0.length ∧ v = .int .i64 k ∧ Aside0 (r = wordL (l0.drop k) a1) ∧ Aside0 (Below w.heap.size w wr)) (fun v _ => l0.length - (intOf v).toNat)
  case atStart => exact ⟨0, Nat.zero_le _, rfl, ⟨hr.out⟩, ⟨Below.refl _ _⟩⟩
  case round =>
    clear hr
    obtain ⟨k, hk, rfl, HA, HD⟩ := hrel
    by_cases hlt : k < l0.length
    · have c0b : decide ((k : Int) < (l0.length : Int)) = true := decide_eq_true (by omega)
      obtain ⟨ad, e, hx0, hx1⟩ := at_T52 HR0.out (k : Int) (by omega) (by omega)
      cases e
      have e1 : (k : Int).toNat = k := by omega
      have e2 : rd_T52 l0 (k : Int) = l0.getD k z52 := by unfold rd_T52; rw [e1]
      rw [e1, e2] at hx0 hx1
      replace hx0 := (HD.out.cell (World.block_lt_of_cell? w _ hx0)).trans hx0
      replace hx1 := (HD.out.cell (World.block_lt_of_cell? w _ hx1)).trans hx1
      have N1 := Aside0.mk (wordL_on l0 z52 a1 k hlt)
      have N2 := Aside0.mk (wordL_at l0 z52 a1 k hlt)
      clear e1 e2
      obtain ⟨x, hx⟩ : ∃ x, l0.getD k z52 = x := ⟨_, rfl⟩
      rw [hx] at hx0 hx1 N1 N2
      obtain ⟨nm, hnm⟩ : ∃ s, x.f0 = s := ⟨_, rfl⟩
      obtain ⟨wd, hwd⟩ : ∃ s, x.f1 = s := ⟨_, rfl⟩
      rw [hnm] at hx0 N1 N2
      rw [hwd] at hx1 N2
      clear hx hnm hwd
      have p : (0 ≤ (k : Int)) = True := eq_true (by omega)
      have q : ((k : Int) < (l0.length : Int)) = True := eq_true (by omega)
      cases b1 : (nm.toList == a1.toList)
      · have B1 := Aside0.mk b1
        go_wp2
        go_roundw
        case rel => exact ⟨k + 1, by omega, by go_num, ⟨by rw [HA.out, N1.out B1.out]⟩, ⟨HD.out.alloc (by first | exact HD.out.size | exact Nat.le_refl _) _⟩⟩
        case measure => simp [intOf]; omega
      · have B1 := Aside0.mk b1
        go_wp2
        go_ret
        exact ⟨by rw [HA.out, N2.out B1.out]; rfl, HD.out.alloc (by first | exact HD.out.size | exact Nat.le_refl _) _⟩
    · have c0b : decide ((k : Int) < (l0.length : Int)) = false := decide_eq_false (by omega)
      have E := Aside0.mk (wordL_end l0 a1 k hlt)
      go_wp2
      go_ret
      exact ⟨by rw [HA.out, E.out]; rfl, HD.out⟩

/-! ### impl_let: function 55 -/
def impl_let.f (l0 : List Mch) (l1 : List Lbl) : Option Bool := if l0.length < 9223372036854775807 ∧ l1.length < 9223372036854775807 ∧ kindsB l0 = true then some (letsB l0 l1) else none
set_option maxHeartbeats 2000000 in
set_option maxRecDepth 100000 in
theorem letOne.calls (m : Mch) (A1 : Option Addr) (c1 : Nat) (l1 : List Lbl) (p : Nat) (w : World) (h1 : 1 ≤ m.f0) (h4 : m.f0 ≤ 4) (hN : l1.length < 9223372036854775807) (hp : w.cell? ⟨p, 0, none⟩ = some (.slice A1 l1.length c1)) (hr1 : Kd.C k52 w A1 l1.length l1) (hc1 : l1.length ≤ c1) :
    Calls Try.prog 79 #[mchA m, .pointer (some ⟨p, 0, none⟩)] w fun e w' => e = .returned (.bool (!letB m.f0 m.f2 (wordL l1 m.f1))) ∧ Below w.heap.size w w' := by
  obtain ⟨kd, nm, wd⟩ := m
  have hu := Try.underlying48
  show Calls Try.prog 79 #[.agg #[.int .i64 kd, .string nm, .string wd], .pointer (some ⟨p, 0, none⟩)] w fun e w' => e = .returned (.bool (!letB kd wd (wordL l1 nm))) ∧ Below w.heap.size w w'
  have CL := Aside0.mk (fun w => impl_lettingOf.calls kd nm wd w)
  have CW := Aside0.mk (fun W (hB : Below w.heap.size w W) => impl_wordOf.calls A1 c1 l1 nm (wordL l1 nm) W (Kd.C_below hr1 hB) hc1 (by unfold impl_wordOf.f; rw [if_pos hN]))
  have CS := Aside0.mk (fun w => impl_lets.calls kd wd (wordL l1 nm) h1 h4 w)
  obtain ⟨lv, hlv⟩ : ∃ v, letV kd wd = v := ⟨_, rfl⟩
  obtain ⟨b, hb⟩ : ∃ v, letB kd wd (wordL l1 nm) = v := ⟨_, rfl⟩
  rw [hb] at CS
  rw [hb]
  obtain ⟨x, hx⟩ : ∃ v, wordL l1 nm = v := ⟨_, rfl⟩
  rw [hx] at CW CS
  rw [hlv] at CL CS
  obtain ⟨n1, hn1⟩ : ∃ n, l1.length = n := ⟨_, rfl⟩
  rw [hn1] at CW hp
  clear hlv hb hx hn1 hr1 hc1 hN h1 h4
  have hpl := World.block_lt_of_cell? w _ hp
  have KEEP : ∀ W w' : World, (W.cell? ⟨w.heap.size, 0, none⟩ = some (.int .i64 kd) ∧ W.cell? ⟨w.heap.size, 1, none⟩ = some (.string nm) ∧ W.cell? ⟨w.heap.size, 2, none⟩ = some (.string wd) ∧ W.cell? ⟨p, 0, none⟩ = some (.slice A1 n1 c1) ∧ Below w.heap.size w W) → Below W.heap.size W w' →
      (w'.cell? ⟨w.heap.size, 0, none⟩ = some (.int .i64 kd) ∧ w'.cell? ⟨w.heap.size, 1, none⟩ = some (.string nm) ∧ w'.cell? ⟨w.heap.size, 2, none⟩ = some (.string wd) ∧ w'.cell? ⟨p, 0, none⟩ = some (.slice A1 n1 c1) ∧ Below w.heap.size w w') :=
    fun W w' ⟨a0, a1, a2, a3, hB⟩ hb => ⟨(hb.cell (World.block_lt_of_cell? W _ a0)).trans a0, (hb.cell (World.block_lt_of_cell? W _ a1)).trans a1, (hb.cell (World.block_lt_of_cell? W _ a2)).trans a2, (hb.cell (World.block_lt_of_cell? W _ a3)).trans a3, below_step hB hb⟩
  have S0 : ((w.alloc (.cells #[.int .i64 kd, .string nm, .string wd] 48)).drew.cell? ⟨w.heap.size, 0, none⟩ = some (.int .i64 kd) ∧ (w.alloc (.cells #[.int .i64 kd, .string nm, .string wd] 48)).drew.cell? ⟨w.heap.size, 1, none⟩ = some (.string nm) ∧ (w.alloc (.cells #[.int .i64 kd, .string nm, .string wd] 48)).drew.cell? ⟨w.heap.size, 2, none⟩ = some (.string wd) ∧ (w.alloc (.cells #[.int .i64 kd, .string nm, .string wd] 48)).drew.cell? ⟨p, 0, none⟩ = some (.slice A1 n1 c1) ∧ Below w.heap.size w (w.alloc (.cells #[.int .i64 kd, .string nm, .string wd] 48)).drew) := by
    refine ⟨by go_simp, by go_simp, by go_simp, ?_, ((Below.refl _ _).alloc (Nat.le_refl _) _).drew⟩
    exact ((((Below.refl _ w).alloc (Nat.le_refl _) (.cells #[.int .i64 kd, .string nm, .string wd] 48)).drew).cell hpl).trans hp
  have HK := Aside0.mk KEEP
  have HS0 := Aside0.mk S0
  clear KEEP S0
  go_enter Try.func79, Try.ntmps79
  go_wp2_with fail
  go_region_held3 (fun W => W.cell? ⟨w.heap.size, 0, none⟩ = some (.int .i64 kd) ∧ W.cell? ⟨w.heap.size, 1, none⟩ = some (.string nm) ∧ W.cell? ⟨w.heap.size, 2, none⟩ = some (.string wd) ∧ W.cell? ⟨p, 0, none⟩ = some (.slice A1 n1 c1) ∧ Below w.heap.size w W)
    (first | exact HS0.out | exact HK.out _ _ (by assumption) (by assumption))
    (first | (go_at_call 76; refine (CL.out _).mono ?_; rintro e w' ⟨rfl, hb⟩) | (go_at_call 81; refine (CW.out _ (by simp_all)).mono ?_; rintro e w' ⟨rfl, hb⟩) | (go_at_call 80; refine (CS.out _).mono ?_; rintro e w' ⟨rfl, hb⟩))
  go_wp2
  go_ret
  exact ⟨rfl, by simp_all⟩
theorem kindsB_at {l : List Mch} (h : kindsB l = true) {x : Mch} (hx : x ∈ l) : 1 ≤ x.f0 ∧ x.f0 ≤ 4 := by
  have h3 := List.all_eq_true.1 h x hx
  have h4 := (Bool.and_eq_true _ _ ▸ h3)
  exact ⟨of_decide_eq_true h4.1, of_decide_eq_true h4.2⟩
set_option maxHeartbeats 2000000 in
set_option maxRecDepth 100000 in
theorem impl_let.calls (A0 : Option Addr) (c0 : Nat) (l0 : List Mch) (A1 : Option Addr) (c1 : Nat) (l1 : List Lbl) (r : Bool) (w : World) (hr0 : Kd.C k48 w A0 l0.length l0) (hc0 : l0.length ≤ c0) (hr1 : Kd.C k52 w A1 l1.length l1) (hc1 : l1.length ≤ c1) (h : impl_let.f l0 l1 = some r) :
    Calls Try.prog 55 #[.slice A0 l0.length c0, .slice A1 l1.length c1] w fun e w' => e = .returned (.bool r) ∧ Below w.heap.size w w' := by
  unfold impl_let.f at h
  split at h
  case isFalse => cases h
  case isTrue hs =>
  obtain ⟨hN0, hN1, hk⟩ := hs
  have hr := Aside0.mk (Option.some.inj h).symm
  clear h
  have hu := Try.underlying25
  have C := Aside0.mk (fun W (hB : Below w.heap.size w W) (hp : W.cell? ⟨w.heap.size, 0, none⟩ = some (.slice A1 l1.length c1)) => containsMatch.calls 79 #[.pointer (some ⟨w.heap.size, 0, none⟩)] Try.f79 Try.func79 (by kernel_rfl) (by kernel_rfl) (fun m => !letB m.f0 m.f2 (wordL l1 m.f1)) A0 c0 l0 W (fun x hx W' hW' => letOne.calls x A1 c1 l1 w.heap.size W' (kindsB_at hk hx).1 (kindsB_at hk hx).2 hN1 ((hW'.cell (World.block_lt_of_cell? W _ hp)).trans hp) (Kd.C_below hr1 (below_step hB hW')) hc1) (Kd.C_below hr0 hB) hc0 hN0)
  have E := Aside0.mk (show letsB l0 l1 = !(l0.any fun m => !letB m.f0 m.f2 (wordL l1 m.f1)) by unfold letsB; rw [← List.all_eq_not_any_not])
  clear hr0 hr1 hk hN0 hN1 hc0 hc1
  obtain ⟨q, hq⟩ : ∃ q, (l0.any fun m => !letB m.f0 m.f2 (wordL l1 m.f1)) = q := ⟨_, rfl⟩
  obtain ⟨n0, hn0⟩ : ∃ n, l0.length = n := ⟨_, rfl⟩
  obtain ⟨n1, hn1⟩ : ∃ n, l1.length = n := ⟨_, rfl⟩
  rw [hq, hn0, hn1] at C
  rw [hq] at E
  rw [hn0, hn1]
  clear hn0 hq hn1
  have D := Aside0.mk (C.out (w.alloc (.cells #[.slice A1 n1 c1] 25)) ((Below.refl _ _).alloc (Nat.le_refl _) _) (by clear C; go_simp))
  clear C
  go_enter Try.func55, Try.ntmps55
  go_wp2_with (go_at_call 74; refine D.out.mono ?_; rintro e w' ⟨rfl, hb⟩)
  go_ret
  exact ⟨by rw [hr.out, E.out]; rfl, below_step ((Below.refl _ _).alloc (Nat.le_refl _) _) hb⟩

/-! ### impl_MatchesLet: function 27 -/
def impl_MatchesLet.f (l0 : List (S48)) (l1 : List (S52)) : Option (Bool) := (impl_MatchesOk.f l0).bind fun t138 => (if t138 = true then ((impl_LabelsOk.f l1).bind fun t139 => (if t139 = true then ((impl_let.f l0 l1).bind fun t140 => (some t140)) else (some false))) else (some false))
set_option maxHeartbeats 8000000 in
set_option maxRecDepth 100000 in
theorem impl_MatchesLet.calls (A0 : Option Addr) (c0 : Nat) (l0 : List (S48)) (A1 : Option Addr) (c1 : Nat) (l1 : List (S52)) (r : Bool) (w : World) (hr0 : Kd.C k48 w A0 l0.length l0) (hc0 : l0.length ≤ c0) (hr1 : Kd.C k52 w A1 l1.length l1) (hc1 : l1.length ≤ c1) (h : impl_MatchesLet.f l0 l1 = some r) :
    Calls Try.prog 27 #[.slice A0 l0.length c0, .slice A1 l1.length c1] w fun e w' => e = .returned (.bool r) ∧ Below w.heap.size w w' := by
  have HR0 := Aside0.mk hr0
  have HC0 := Aside0.mk hc0
  clear hr0 hc0
  have HR1 := Aside0.mk hr1
  have HC1 := Aside0.mk hc1
  clear hr1 hc1
  have HB := Aside0.mk (Below.refl w.heap.size w)
  have H : ((impl_MatchesOk.f l0).bind fun t138 => (if t138 = true then ((impl_LabelsOk.f l1).bind fun t139 => (if t139 = true then ((impl_let.f l0 l1).bind fun t140 => (some t140)) else (some false))) else (some false))) = some r := h
  clear h
  replace H := Option.bind_eq_some_iff.mp H
  obtain ⟨t138, A30, H⟩ := H
  replace H : (if t138 = true then ((impl_LabelsOk.f l1).bind fun t139 => (if t139 = true then ((impl_let.f l0 l1).bind fun t140 => (some t140)) else (some false))) else (some false)) = some r := H
  have A3 := Aside0.mk A30
  clear A30
  by_cases c4 : t138 = true
  · subst c4
    have H1 : ((impl_LabelsOk.f l1).bind fun t139 => (if t139 = true then ((impl_let.f l0 l1).bind fun t140 => (some t140)) else (some false))) = some r := by rw [if_pos rfl] at H; exact H
    clear H
    have H := H1
    clear H1
    replace H := Option.bind_eq_some_iff.mp H
    obtain ⟨t139, A50, H⟩ := H
    replace H : (if t139 = true then ((impl_let.f l0 l1).bind fun t140 => (some t140)) else (some false)) = some r := H
    have A5 := Aside0.mk A50
    clear A50
    by_cases c6 : t139 = true
    · subst c6
      have H1 : ((impl_let.f l0 l1).bind fun t140 => (some t140)) = some r := by rw [if_pos rfl] at H; exact H
      clear H
      have H := H1
      clear H1
      replace H := Option.bind_eq_some_iff.mp H
      obtain ⟨t140, A70, H⟩ := H
      replace H : (some t140) = some r := H
      have A7 := Aside0.mk A70
      clear A70
      obtain rfl := Option.some.inj H
      go_enter Try.func27, Try.ntmps27
      go_wp2_with (first | ((with_reducible refine gate_callee (f := 52) rfl ?_); refine goesL_ (some 6) rfl rfl Try.func52 (by kernel_rfl) rfl #[.slice A0 l0.length c0] rfl (by (try simp only [List.map_toArray, List.map_cons, List.map_nil]); first | done | rfl | (simp only [List.length_drop, List.length_take]; rfl)) ?_; (with_reducible refine (impl_MatchesOk.calls _ _ l0 true _ ?side1 ?side2 A3.out).mono ?_); (case side1 => repeat (first | exact HR0.out | (with_reducible refine Kd.C_alloc ?_ _) | (with_reducible refine Kd.C_drewN ?_ _) | (with_reducible refine Kd.C_drew ?_))); (case side2 => exact HC0.out); rintro e w8 ⟨rfl, hb⟩; refine ⟨_, rfl, ?_⟩; have n0_ := Aside0.mk (below_step (by repeat (first | (with_reducible first | exact HB.out | apply below_alloc | apply pw_below_drewN | apply below_drew1) | exact HB.out)) hb); clear HB; have HB := n0_; clear n0_; (try clear hb); (try clear hb2); (try clear hk); (try clear hi)) | (go_at_call 38; (with_reducible refine (impl_LabelsOk.calls _ _ l1 true _ ?side1 ?side2 A5.out).mono ?_); (case side1 => repeat (first | exact (Kd.C_below HR1.out HB.out) | (with_reducible refine Kd.C_alloc ?_ _) | (with_reducible refine Kd.C_drewN ?_ _) | (with_reducible refine Kd.C_drew ?_))); (case side2 => exact HC1.out); rintro e w9 ⟨rfl, hb⟩; have n0_ := Aside0.mk (below_step (by repeat (first | (with_reducible first | exact HB.out | apply below_alloc | apply pw_below_drewN | apply below_drew1) | exact HB.out)) hb); clear HB; have HB := n0_; clear n0_; (try clear hb); (try clear hb2); (try clear hk); (try clear hi)) | (go_at_call 55; (with_reducible refine (impl_let.calls _ _ l0 _ _ l1 t140 _ ?side1 ?side2 ?side3 ?side4 A7.out).mono ?_); (case side1 => repeat (first | exact (Kd.C_below HR0.out HB.out) | (with_reducible refine Kd.C_alloc ?_ _) | (with_reducible refine Kd.C_drewN ?_ _) | (with_reducible refine Kd.C_drew ?_))); (case side2 => exact HC0.out); (case side3 => repeat (first | exact (Kd.C_below HR1.out HB.out) | (with_reducible refine Kd.C_alloc ?_ _) | (with_reducible refine Kd.C_drewN ?_ _) | (with_reducible refine Kd.C_drew ?_))); (case side4 => exact HC1.out); rintro e w10 ⟨rfl, hb⟩; have n0_ := Aside0.mk (below_step (by repeat (first | (with_reducible first | exact HB.out | apply below_alloc | apply pw_below_drewN | apply below_drew1) | exact HB.out)) hb); clear HB; have HB := n0_; clear n0_; (try clear hb); (try clear hb2); (try clear hk); (try clear hi)))
      go_ret
      exact ⟨by first | rfl | (simp [errW_none, errW_some] <;> rfl) | (simp [*, errW_none, errW_some] <;> rfl), by repeat (first | (with_reducible first | exact HB.out | apply below_alloc | apply pw_below_drewN | apply below_drew1) | exact HB.out)⟩
    · replace c6 := Bool.eq_false_iff.mpr c6
      subst c6
      have H1 : (some false) = some r := by rw [if_neg (show ¬ (false = true) by decide)] at H; exact H
      clear H
      have H := H1
      clear H1
      obtain rfl := Option.some.inj H
      go_enter Try.func27, Try.ntmps27
      go_wp2_with (first | ((with_reducible refine gate_callee (f := 52) rfl ?_); refine goesL_ (some 6) rfl rfl Try.func52 (by kernel_rfl) rfl #[.slice A0 l0.length c0] rfl (by (try simp only [List.map_toArray, List.map_cons, List.map_nil]); first | done | rfl | (simp only [List.length_drop, List.length_take]; rfl)) ?_; (with_reducible refine (impl_MatchesOk.calls _ _ l0 true _ ?side1 ?side2 A3.out).mono ?_); (case side1 => repeat (first | exact HR0.out | (with_reducible refine Kd.C_alloc ?_ _) | (with_reducible refine Kd.C_drewN ?_ _) | (with_reducible refine Kd.C_drew ?_))); (case side2 => exact HC0.out); rintro e w11 ⟨rfl, hb⟩; refine ⟨_, rfl, ?_⟩; have n0_ := Aside0.mk (below_step (by repeat (first | (with_reducible first | exact HB.out | apply below_alloc | apply pw_below_drewN | apply below_drew1) | exact HB.out)) hb); clear HB; have HB := n0_; clear n0_; (try clear hb); (try clear hb2); (try clear hk); (try clear hi)) | (go_at_call 38; (with_reducible refine (impl_LabelsOk.calls _ _ l1 false _ ?side1 ?side2 A5.out).mono ?_); (case side1 => repeat (first | exact (Kd.C_below HR1.out HB.out) | (with_reducible refine Kd.C_alloc ?_ _) | (with_reducible refine Kd.C_drewN ?_ _) | (with_reducible refine Kd.C_drew ?_))); (case side2 => exact HC1.out); rintro e w12 ⟨rfl, hb⟩; have n0_ := Aside0.mk (below_step (by repeat (first | (with_reducible first | exact HB.out | apply below_alloc | apply pw_below_drewN | apply below_drew1) | exact HB.out)) hb); clear HB; have HB := n0_; clear n0_; (try clear hb); (try clear hb2); (try clear hk); (try clear hi)))
      go_ret
      exact ⟨by first | rfl | (simp [errW_none, errW_some] <;> rfl) | (simp [*, errW_none, errW_some] <;> rfl), by repeat (first | (with_reducible first | exact HB.out | apply below_alloc | apply pw_below_drewN | apply below_drew1) | exact HB.out)⟩
  · replace c4 := Bool.eq_false_iff.mpr c4
    subst c4
    have H1 : (some false) = some r := by rw [if_neg (show ¬ (false = true) by decide)] at H; exact H
    clear H
    have H := H1
    clear H1
    obtain rfl := Option.some.inj H
    go_enter Try.func27, Try.ntmps27
    go_wp2_with (first | ((with_reducible refine gate_callee (f := 52) rfl ?_); refine goesL_ (some 6) rfl rfl Try.func52 (by kernel_rfl) rfl #[.slice A0 l0.length c0] rfl (by (try simp only [List.map_toArray, List.map_cons, List.map_nil]); first | done | rfl | (simp only [List.length_drop, List.length_take]; rfl)) ?_; (with_reducible refine (impl_MatchesOk.calls _ _ l0 false _ ?side1 ?side2 A3.out).mono ?_); (case side1 => repeat (first | exact HR0.out | (with_reducible refine Kd.C_alloc ?_ _) | (with_reducible refine Kd.C_drewN ?_ _) | (with_reducible refine Kd.C_drew ?_))); (case side2 => exact HC0.out); rintro e w13 ⟨rfl, hb⟩; refine ⟨_, rfl, ?_⟩; have n0_ := Aside0.mk (below_step (by repeat (first | (with_reducible first | exact HB.out | apply below_alloc | apply pw_below_drewN | apply below_drew1) | exact HB.out)) hb); clear HB; have HB := n0_; clear n0_; (try clear hb); (try clear hb2); (try clear hk); (try clear hi)))
    go_ret
    exact ⟨by first | rfl | (simp [errW_none, errW_some] <;> rfl) | (simp [*, errW_none, errW_some] <;> rfl), by repeat (first | (with_reducible first | exact HB.out | apply below_alloc | apply pw_below_drewN | apply below_drew1) | exact HB.out)⟩

/-! ### spec_l3Letters: function 47 -/
def spec_l3Letters.f (a0 : ByteArray) (a1 : Int) : Option Bool := if a0.size < 9223372036854775807 then some (lettersB a0 a1) else none
set_option maxHeartbeats 1000000 in
set_option maxRecDepth 100000 in
theorem spec_l3Letters.calls (a0 : ByteArray) (a1 : Int) (r : Bool) (w : World) (h : spec_l3Letters.f a0 a1 = some r) :
    Calls Try.prog 47 #[.string a0, .int .i64 a1] w fun e w' => e = .returned (.bool r) ∧ Drawn0 w w' := by
  unfold spec_l3Letters.f at h
  split at h
  case isFalse => cases h
  case isTrue hs =>
  have hr := Aside0.mk (Option.some.inj h).symm
  clear h
  go_enter Try.func47, Try.ntmps47
  go_wp2
  go_loop [5] (fun v => ∃ k : Nat, k ≤ a0.size ∧ v = .int .i64 k ∧ Aside0 ((a0.data.toList.take k).all isL = true)) (fun v => a0.size - (intOf v).toNat)
  case atStart => exact ⟨0, Nat.zero_le _, rfl, ⟨rfl⟩⟩
  case round =>
    obtain ⟨k, hk, rfl, HA⟩ := hrel
    have e : (k : Int).toNat = k := by omega
    by_cases hlt : k < a0.size
    · have c0 : decide ((k : Int) < (a0.size : Int)) = true := decide_eq_true (by omega)
      have p : (0 ≤ (k : Int)) = True := eq_true (by omega)
      have q : ((k : Int) < (a0.size : Int)) = True := eq_true (by omega)
      have hx : ∀ h : k < a0.size, ((a0[k]'h).toNat : Int) = bt a0 (k : Int) := fun h => (letters_bt a0 k h).symm
      have hn := fun hb => letters_no a0 k hlt hb a1
      have hy := fun hb => letters_step a0 k hlt HA.out hb
      have Hn := Aside0.mk hn
      have Hy := Aside0.mk hy
      clear hn hy e
      by_cases c1 : bt a0 (k : Int) < 97
      · have c1b : decide (bt a0 (k : Int) < 97) = true := decide_eq_true c1
        have C1 := Aside0.mk c1
        clear c1
        go_wp2
        go_ret
        exact ⟨by rw [hr.out, Hn.out (by have := C1.out; omega)]; rfl, Drawn0.refl _⟩
      · have c1b : decide (bt a0 (k : Int) < 97) = false := decide_eq_false c1
        have C1 := Aside0.mk c1
        clear c1
        by_cases c2 : 122 < bt a0 (k : Int)
        · have c2b : decide (122 < bt a0 (k : Int)) = true := decide_eq_true c2
          have C2 := Aside0.mk c2
          clear c2
          go_wp2
          go_ret
          exact ⟨by rw [hr.out, Hn.out (by have := C2.out; omega)]; rfl, Drawn0.refl _⟩
        · have c2b : decide (122 < bt a0 (k : Int)) = false := decide_eq_false c2
          have C2 := Aside0.mk c2
          clear c2
          go_wp2
          go_round
          case rel => exact ⟨k + 1, by omega, by go_num, ⟨Hy.out (by have := C1.out; have := C2.out; omega)⟩⟩
          case measure => simp [intOf]; omega
    · have c0 : decide ((k : Int) < (a0.size : Int)) = false := decide_eq_false (by omega)
      have hk' : k = a0.size := by omega
      have HE := Aside0.mk (letters_end a0 (by rw [← hk']; exact HA.out) a1)
      clear hk' e
      go_wp2
      go_ret
      exact ⟨by rw [hr.out, HE.out]; rfl, Drawn0.refl _⟩

/-! ### spec_l3Name: function 46 -/
def spec_l3Name.f (a0 : ByteArray) : Option Bool := if a0.size < 9223372036854775807 then some (lettersB a0 6 && (a0.toList != [])) else none
set_option maxHeartbeats 1000000 in
set_option maxRecDepth 100000 in
theorem spec_l3Name.calls (a0 : ByteArray) (r : Bool) (w : World) (h : spec_l3Name.f a0 = some r) :
    Calls Try.prog 46 #[.string a0] w fun e w' => e = .returned (.bool r) ∧ Drawn0 w w' := by
  unfold spec_l3Name.f at h
  split at h
  case isFalse => cases h
  case isTrue hs =>
  have hr := Aside0.mk (Option.some.inj h).symm
  clear h
  have hc : ∀ w, Calls Try.prog 47 #[.string a0, .int .i64 6] w fun e w' => e = .returned (.bool (lettersB a0 6)) ∧ Drawn0 w w' := fun w => spec_l3Letters.calls a0 6 _ w (by unfold spec_l3Letters.f; rw [if_pos hs])
  have HC := Aside0.mk hc
  clear hc
  by_cases b : lettersB a0 6 = true
  · have HB := Aside0.mk b
    rw [b] at HC
    clear b
    go_enter Try.func46, Try.ntmps46
    go_wp2_with (go_at_call 47; refine (HC.out _).mono ?_; rintro e w' ⟨rfl, ⟨nd, rfl⟩⟩)
    go_ret
    exact ⟨by rw [hr.out, HB.out]; simp only [Bool.true_and, my_ne_nil]; rfl, ⟨⟨_, rfl⟩⟩⟩
  · have b' := Bool.eq_false_iff.mpr b
    have HB := Aside0.mk b'
    rw [b'] at HC
    clear b b'
    go_enter Try.func46, Try.ntmps46
    go_wp2_with (go_at_call 47; refine (HC.out _).mono ?_; rintro e w' ⟨rfl, ⟨nd, rfl⟩⟩)
    go_ret
    exact ⟨by rw [hr.out, HB.out]; rfl, ⟨⟨_, rfl⟩⟩⟩

/-! ### spec_l1In: function 48 -/
def spec_l1In.f (a0 : Int) (a1 : Int) (a2 : Int) : Option (Bool) := if a0 ≥ a1 then (some (decide (a0 ≤ a2))) else (some false)
set_option maxHeartbeats 8000000 in
set_option maxRecDepth 100000 in
theorem spec_l1In.calls (a0 : Int) (a1 : Int) (a2 : Int) (r : Bool) (w : World) (h : spec_l1In.f a0 a1 a2 = some r) :
    Calls Try.prog 48 #[.int .i64 a0, .int .i64 a1, .int .i64 a2] w fun e w' => e = .returned (.bool r) ∧ Drawn0 w w' := by
  have H : (if a0 ≥ a1 then (some (decide (a0 ≤ a2))) else (some false)) = some r := h
  clear h
  by_cases c4 : a0 ≥ a1
  · rw [if_pos c4] at H
    have c4b0 : decide (a1 ≤ a0) = true := decide_eq_true c4
    clear c4
    obtain rfl := Option.some.inj H
    go_enter Try.func48, Try.ntmps48
    go_wp2
    go_ret
    exact ⟨by first | rfl | (simp; done) | (simp [*]; done) | (simp only [my_ne_nil]; rfl), by repeat (first | exact Drawn0.refl _ | apply Drawn0.step)⟩
  · rw [if_neg c4] at H
    have c4b0 : decide (a1 ≤ a0) = false := decide_eq_false c4
    clear c4
    obtain rfl := Option.some.inj H
    go_enter Try.func48, Try.ntmps48
    go_wp2
    go_ret
    exact ⟨by first | rfl | (simp; done) | (simp [*]; done) | (simp only [my_ne_nil]; rfl), by repeat (first | exact Drawn0.refl _ | apply Drawn0.step)⟩

end Go.Proofs.Ytipbllegjcedgaa.QFnExactMatchesLet
