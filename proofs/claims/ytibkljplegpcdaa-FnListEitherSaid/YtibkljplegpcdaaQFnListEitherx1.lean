-- Written by wip/tools/mk.py (this session's program, which runs the kit's print): functions, and proofs that the machine's calls do what they say.
import Derived.Test.YtibkljplegpcdaaQFnListEitherx0
namespace Go.Proofs.Ytibkljplegpcdaa.QFnListEither
open Go.RowKit Go.Proofs.YtibkljplegpcdaaW.PrintWords Go.Proofs.YtibkljplegpcdaaW.PrintLast Go.Proofs.YtibkljplegpcdaaW.PrintMore
attribute [local go_sem] IntKind.wrap_u8 max2_int min2_int max_two min_two max_three min_three max_four min_four   -- for this text's walks alone
set_option linter.unusedVariables false
set_option linter.unusedSimpArgs false

/-! ### impl_ListOk: function 26 -/
def impl_ListOk.l0 : Nat → List Int → List Int → Int → Int → Option (Bool)
  | 0, _, _, _, _ => none
  | k + 1, x0, x5, x6, x7 => if x7 < x6 then (if 0 ≤ x7 then (if x7 < (x5.length : Int) then (if (rd x5 x7) < 0 then (some false) else (if x7 > 0 then (if 0 ≤ (wrap64 (x7 - 1)) then (if (wrap64 (x7 - 1)) < (x0.length : Int) then (if (rd x0 (wrap64 (x7 - 1))) ≥ (rd x5 x7) then (some false) else (impl_ListOk.l0 k x0 x5 x6 (wrap64 (x7 + 1)))) else (none)) else (none)) else (impl_ListOk.l0 k x0 x5 x6 (wrap64 (x7 + 1))))) else (none)) else (none)) else (some (decide ((x0.length : Int) ≤ 40)))
def impl_ListOk.f (k : Nat) (l0 : List Int) : Option (Bool) := impl_ListOk.l0 k l0 l0 (l0.length : Int) 0
theorem impl_ListOk.mono_l : ∀ k, (∀ y0 y1 y2 y3, LeO (impl_ListOk.l0 k y0 y1 y2 y3) (impl_ListOk.l0 (k + 1) y0 y1 y2 y3))
  | 0 => fun _ _ _ _ r h => by simp [impl_ListOk.l0] at h
  | k + 1 => by
    have ih0 := impl_ListOk.mono_l k
    · intro y0 y1 y2 y3
      unfold impl_ListOk.l0
      repeat' first
      | (with_reducible exact ih0 _ _ _ _)
      | (with_reducible exact LeO.refl _)
      | (with_reducible exact LeO.none _)
      | (with_reducible refine LeO.ite ?_ ?_)
      | (with_reducible refine LeO.bind ?_ (fun _ => ?_))
      | exact ih0 _ _ _ _
      | exact LeO.none _
      | refine LeO.ite ?_ ?_
      | refine LeO.bind ?_ (fun _ => ?_)
theorem impl_ListOk.mono : ∀ a0 k, LeO (impl_ListOk.f k a0) (impl_ListOk.f (k + 1) a0) := by
  intro a0 k
  have ih0 := impl_ListOk.mono_l k
  unfold impl_ListOk.f
  repeat' first
      | (with_reducible exact ih0 _ _ _ _)
      | (with_reducible exact LeO.refl _)
      | (with_reducible exact LeO.none _)
      | (with_reducible refine LeO.ite ?_ ?_)
      | (with_reducible refine LeO.bind ?_ (fun _ => ?_))
      | exact ih0 _ _ _ _
      | exact LeO.none _
      | refine LeO.ite ?_ ?_
      | refine LeO.bind ?_ (fun _ => ?_)
set_option maxHeartbeats 8000000 in
set_option maxRecDepth 100000 in
theorem impl_ListOk.calls (k : Nat) (A0 : Option Addr) (c0 : Nat) (l0 : List Int) (r : Bool) (w : World) (hr0 : Kd.C (Kd.int .i64) w A0 l0.length l0) (hc0 : l0.length ≤ c0) (h : impl_ListOk.f k l0 = some r) :
    Calls Try.prog 26 #[.slice A0 l0.length c0] w fun e w' => e = .returned (.bool r) ∧ Drawn0 w w' := by
  have HR0 := Aside0.mk hr0
  have HC0 := Aside0.mk hc0
  clear hr0 hc0
  have H : (impl_ListOk.l0 k l0 l0 (l0.length : Int) 0) = some r := h
  clear h
  have H' := Aside0.mk H
  clear H
  go_enter Try.func26, Try.ntmps26
  go_wp2
  go_loopg [7] k (fun kq v7 w' => ∃ (x7_1 : Int), v7 = .int .i64 x7_1 ∧ Aside0 (impl_ListOk.l0 kq l0 l0 (l0.length : Int) x7_1 = some r) ∧ Aside0 (kq ≤ k) ∧ Drawn0 w w')
  case atStart => exact ⟨(0), (by first | rfl | (simp; done) | (simp [*]; done) | (simp only [my_ne_nil]; rfl)), H', ⟨Nat.le_refl _⟩, by repeat (first | exact Drawn0.refl _ | apply Drawn0.step)⟩
  case round =>
    clear H'
    obtain ⟨x7_1, rfl, HA, HK1, ⟨m1, rfl⟩⟩ := hrel
    cases gk with
    | zero => exact absurd HA.out (by simp [impl_ListOk.l0])
    | succ k1 =>
      have H := HA.out
      clear HA
      simp only [impl_ListOk.l0] at H
      by_cases c2 : x7_1 < (l0.length : Int)
      · rw [if_pos c2] at H
        have c2b0 : decide (x7_1 < (l0.length : Int)) = true := decide_eq_true c2
        clear c2
        by_cases c3 : 0 ≤ x7_1
        · rw [if_pos c3] at H
          have c3b0 : decide (0 ≤ x7_1) = true := decide_eq_true c3
          clear c3
          by_cases c4 : x7_1 < (l0.length : Int)
          · rw [if_pos c4] at H
            have c4b0 : decide (x7_1 < (l0.length : Int)) = true := decide_eq_true c4
            clear c4
            by_cases c5 : (rd l0 x7_1) < 0
            · rw [if_pos c5] at H
              have c5b0 : decide ((rd l0 x7_1) < 0) = true := decide_eq_true c5
              clear c5
              obtain rfl := Option.some.inj H
              have p101 : 0 ≤ (x7_1 : Int) := of_decide_eq_true (by first | (with_reducible assumption) | assumption)
              have q101 : x7_1 < (l0.length : Int) := of_decide_eq_true (by first | (with_reducible assumption) | assumption)
              obtain ⟨ad101, e101, hx101_0⟩ := Kd.at_int HR0.out x7_1 p101 q101
              cases e101
              replace p101 := eq_true p101
              replace q101 := eq_true q101
              go_wp2
              go_ret
              exact ⟨by first | rfl | (simp; done) | (simp [*]; done) | (simp only [my_ne_nil]; rfl), by repeat (first | exact Drawn0.refl _ | apply Drawn0.step)⟩
            · rw [if_neg c5] at H
              have c5b0 : decide ((rd l0 x7_1) < 0) = false := decide_eq_false c5
              clear c5
              by_cases c6 : x7_1 > 0
              · rw [if_pos c6] at H
                have c6b0 : decide (0 < x7_1) = true := decide_eq_true c6
                clear c6
                obtain ⟨ji7, hji7⟩ : ∃ j_ : Int, (wrap64 (x7_1 - 1)) = j_ := ⟨_, rfl⟩
                replace H : (if 0 ≤ (ji7) then (if (ji7) < (l0.length : Int) then (if (rd l0 (ji7)) ≥ (rd l0 x7_1) then (some false) else (impl_ListOk.l0 k1 l0 l0 (l0.length : Int) (wrap64 (x7_1 + 1)))) else (none)) else (none)) = some r := by first | (rw [hji7] at H; exact H) | (simp only [hji7] at H ⊢; exact H)
                have hji7w : (IntKind.i64.wrap (x7_1 - 1)) = ji7 := (i64_w _).trans hji7
                by_cases c8 : 0 ≤ (ji7)
                · rw [if_pos c8] at H
                  have c8b0 : decide (0 ≤ (ji7)) = true := decide_eq_true c8
                  clear c8
                  by_cases c9 : (ji7) < (l0.length : Int)
                  · rw [if_pos c9] at H
                    have c9b0 : decide ((ji7) < (l0.length : Int)) = true := decide_eq_true c9
                    clear c9
                    by_cases c10 : (rd l0 (ji7)) ≥ (rd l0 x7_1)
                    · rw [if_pos c10] at H
                      have c10b0 : decide ((rd l0 x7_1) ≤ (rd l0 (ji7))) = true := decide_eq_true c10
                      clear c10
                      obtain rfl := Option.some.inj H
                      have p101 : 0 ≤ (x7_1 : Int) := of_decide_eq_true (by first | (with_reducible assumption) | assumption)
                      have q101 : x7_1 < (l0.length : Int) := of_decide_eq_true (by first | (with_reducible assumption) | assumption)
                      obtain ⟨ad101, e101, hx101_0⟩ := Kd.at_int HR0.out x7_1 p101 q101
                      cases e101
                      replace p101 := eq_true p101
                      replace q101 := eq_true q101
                      have p102 : 0 ≤ ((ji7) : Int) := of_decide_eq_true (by first | (with_reducible assumption) | assumption)
                      have q102 : (ji7) < (l0.length : Int) := of_decide_eq_true (by first | (with_reducible assumption) | assumption)
                      obtain ⟨ad102, e102, hx102_0⟩ := Kd.at_int HR0.out (ji7) p102 q102
                      obtain rfl : ad101 = ad102 := (by injection e102)
                      replace p102 := eq_true p102
                      replace q102 := eq_true q102
                      go_wp2
                      go_ret
                      exact ⟨by first | rfl | (simp; done) | (simp only [← hji7] <;> (first | rfl | simp)) | (simp [*]; done) | (simp only [my_ne_nil]; rfl), by repeat (first | exact Drawn0.refl _ | apply Drawn0.step)⟩
                    · rw [if_neg c10] at H
                      have c10b0 : decide ((rd l0 x7_1) ≤ (rd l0 (ji7))) = false := decide_eq_false c10
                      clear c10
                      have H' := Aside0.mk H
                      clear H
                      have p101 : 0 ≤ (x7_1 : Int) := of_decide_eq_true (by first | (with_reducible assumption) | assumption)
                      have q101 : x7_1 < (l0.length : Int) := of_decide_eq_true (by first | (with_reducible assumption) | assumption)
                      obtain ⟨ad101, e101, hx101_0⟩ := Kd.at_int HR0.out x7_1 p101 q101
                      cases e101
                      replace p101 := eq_true p101
                      replace q101 := eq_true q101
                      have p102 : 0 ≤ ((ji7) : Int) := of_decide_eq_true (by first | (with_reducible assumption) | assumption)
                      have q102 : (ji7) < (l0.length : Int) := of_decide_eq_true (by first | (with_reducible assumption) | assumption)
                      obtain ⟨ad102, e102, hx102_0⟩ := Kd.at_int HR0.out (ji7) p102 q102
                      obtain rfl : ad101 = ad102 := (by injection e102)
                      replace p102 := eq_true p102
                      replace q102 := eq_true q102
                      go_wp2
                      go_roundg k1
                      case measure => have := HK1.out; omega
                      case rel => exact ⟨(wrap64 (x7_1 + 1)), (by first | rfl | (simp; done) | (simp [*]; done) | (simp only [my_ne_nil]; rfl)), H', ⟨by have := HK1.out; omega⟩, by repeat (first | exact Drawn0.refl _ | apply Drawn0.step)⟩
                  · rw [if_neg c9] at H
                    exact absurd H (by simp)
                · rw [if_neg c8] at H
                  exact absurd H (by simp)
              · rw [if_neg c6] at H
                have c6b0 : decide (0 < x7_1) = false := decide_eq_false c6
                clear c6
                have H' := Aside0.mk H
                clear H
                have p101 : 0 ≤ (x7_1 : Int) := of_decide_eq_true (by first | (with_reducible assumption) | assumption)
                have q101 : x7_1 < (l0.length : Int) := of_decide_eq_true (by first | (with_reducible assumption) | assumption)
                obtain ⟨ad101, e101, hx101_0⟩ := Kd.at_int HR0.out x7_1 p101 q101
                cases e101
                replace p101 := eq_true p101
                replace q101 := eq_true q101
                go_wp2
                go_roundg k1
                case measure => have := HK1.out; omega
                case rel => exact ⟨(wrap64 (x7_1 + 1)), (by first | rfl | (simp; done) | (simp [*]; done) | (simp only [my_ne_nil]; rfl)), H', ⟨by have := HK1.out; omega⟩, by repeat (first | exact Drawn0.refl _ | apply Drawn0.step)⟩
          · rw [if_neg c4] at H
            exact absurd H (by simp)
        · rw [if_neg c3] at H
          exact absurd H (by simp)
      · rw [if_neg c2] at H
        have c2b0 : decide (x7_1 < (l0.length : Int)) = false := decide_eq_false c2
        clear c2
        obtain rfl := Option.some.inj H
        go_wp2
        go_ret
        exact ⟨by first | rfl | (simp; done) | (simp [*]; done) | (simp only [my_ne_nil]; rfl), by repeat (first | exact Drawn0.refl _ | apply Drawn0.step)⟩

/-! ### impl_merge_int: function 91 -/
def impl_merge_int.f (K : Bool → Bool → Bool) (l0 l1 : List Int) : List Int := mergeL K l0 l1
set_option maxHeartbeats 4000000 in
set_option maxRecDepth 100000 in
theorem impl_merge_int.calls (g : Nat) (fn : Func) (hf : Try.prog.funcs[g]? = some fn) (hname : (fn.name == "runtime.NumGoroutine") = false) (hbody : fn.body.isSome = true) (K : Bool → Bool → Bool) (hg : ∀ (x y : Bool) (W : World), Calls Try.prog g #[.bool x, .bool y] W fun e w' => e = .returned (.bool (K x y)) ∧ Drawn0 W w')
    (A0 : Option Addr) (c0 : Nat) (l0 : List Int) (A1 : Option Addr) (c1 : Nat) (l1 : List Int) (w : World) (hr0 : Kd.C (Kd.int .i64) w A0 l0.length l0) (hc0 : l0.length ≤ c0) (hr1 : Kd.C (Kd.int .i64) w A1 l1.length l1) (hc1 : l1.length ≤ c1) (hbd : l0.length + l1.length ≤ 1000000) :
    Calls Try.prog 91 #[.slice A0 l0.length c0, .slice A1 l1.length c1, .func (.func g) #[] #[]] w fun e w' => ∃ v0_ : Value, e = .returned (v0_) ∧ Kd.R (Kd.int .i64) 3 w' w.heap.size (fun _ => True) v0_ (impl_merge_int.f K l0 l1) ∧ Below w.heap.size w w' := by
  obtain ⟨r, hr⟩ : ∃ r, impl_merge_int.f K l0 l1 = r := ⟨_, rfl⟩
  rw [hr]
  have HR := Aside0.mk (hr.symm : r = mergeL K l0 l1)
  have HG := Aside0.mk hg
  have HF := Aside0.mk hf
  have HN := Aside0.mk hname
  have HY := Aside0.mk hbody
  have HR0 := Aside0.mk hr0
  have HC0 := Aside0.mk hc0
  have HR1 := Aside0.mk hr1
  have HC1 := Aside0.mk hc1
  have HBD := Aside0.mk hbd
  clear hr0 hc0 hr1 hc1 hr hg hf hname hbody hbd
  go_enter Try.func91, Try.ntmps91
  go_wp2
  go_loopg [0, 1, 7] (l0.length + l1.length) (fun n v0 v1 v7 wr => ∃ (la lb o : List Int) (na nb : Nat) (Aa Ab : Option Addr) (ca cb : Nat), v0 = .slice Aa na ca ∧ v1 = .slice Ab nb cb ∧ Aside0 (la.length = na) ∧ Aside0 (lb.length = nb) ∧ Aside0 (n = na + nb) ∧ Aside0 (na ≤ ca) ∧ Aside0 (nb ≤ cb) ∧ Aside0 (Kd.C (Kd.int .i64) w Aa la.length la) ∧ Aside0 (Kd.C (Kd.int .i64) w Ab lb.length lb) ∧ Aside0 (Kd.R (Kd.int .i64) 3 wr w.heap.size (fun _ => True) v7 o) ∧ Aside0 (Below w.heap.size w wr) ∧ Aside0 (r = o ++ mergeL K la lb) ∧ Aside0 (o.length + na + nb ≤ 1000000))
  case atStart => exact ⟨l0, l1, [], l0.length, l1.length, A0, A1, c0, c1, rfl, rfl, ⟨rfl⟩, ⟨rfl⟩, ⟨rfl⟩, HC0, HC1, HR0, HR1, ⟨Kd.R_nil _ _ _ _ _⟩, ⟨Below.refl _ _⟩, ⟨HR.out⟩, ⟨by have := HBD.out; simpa using this⟩⟩
  case round =>
    clear HR HR0 HC0 HR1 HC1 HBD
    obtain ⟨la, lb, o, na, nb, Aa, Ab, ca, cb, rfl, rfl, HLA, HLB, HN_, HCA, HCB, HA, HB_, HO, HB, HL, HBD⟩ := hrel
    obtain ⟨i0, hi0, _, hsz0, _⟩ := info_parts info3
    by_cases ha : 0 < na
    · by_cases hb : 0 < nb
      · have hla : 0 < la.length := by rw [HLA.out]; exact ha
        have hlb : 0 < lb.length := by rw [HLB.out]; exact hb
        have a1 : decide (0 < (na : Int)) = true := decide_eq_true (by omega)
        have a2 : decide (0 < na) = true := decide_eq_true (by omega)
        have a3 : ((na : Int) == 0) = false := by exact beq_eq_false_iff_ne.mpr (by omega)
        have a4 : (na == 0) = false := by exact beq_eq_false_iff_ne.mpr (by omega)
        have b1 : decide (0 < (nb : Int)) = true := decide_eq_true (by omega)
        have b2 : decide (0 < nb) = true := decide_eq_true (by omega)
        have b3 : ((nb : Int) == 0) = false := by exact beq_eq_false_iff_ne.mpr (by omega)
        have b4 : (nb == 0) = false := by exact beq_eq_false_iff_ne.mpr (by omega)
        have HPA := Aside0.mk (show 0 < na from by omega)
        have HPB := Aside0.mk (show 0 < nb from by omega)
        obtain ⟨ada, e, hxa⟩ := Kd.at_int HA.out 0 (by omega) (by rw [HLA.out]; omega)
        cases e
        replace hxa := (HB.out.cell (World.block_lt_of_cell? w _ hxa)).trans hxa
        obtain ⟨xa, hxae⟩ : ∃ x, rd la 0 = x := ⟨_, rfl⟩
        rw [hxae] at hxa
        have qa : ((0 : Int) < (na : Int)) = True := eq_true (by omega)
        have qa2 : (0 < na) = True := eq_true (by omega)
        have qa3 : (na = 0) = False := eq_false (by omega)
        have hya : wr.cell? (ada.add 0) = some (.int .i64 xa) := hxa
        have hza : wr.cell? ada = some (.int .i64 xa) := by have h := hxa; rwa [show ada.add (Int.toNat 0) = ada from by simp [Addr.add]] at h
        obtain ⟨adb, e, hxb⟩ := Kd.at_int HB_.out 0 (by omega) (by rw [HLB.out]; omega)
        cases e
        replace hxb := (HB.out.cell (World.block_lt_of_cell? w _ hxb)).trans hxb
        obtain ⟨xb, hxbe⟩ : ∃ x, rd lb 0 = x := ⟨_, rfl⟩
        rw [hxbe] at hxb
        have qb : ((0 : Int) < (nb : Int)) = True := eq_true (by omega)
        have qb2 : (0 < nb) = True := eq_true (by omega)
        have qb3 : (nb = 0) = False := eq_false (by omega)
        have hyb : wr.cell? (adb.add 0) = some (.int .i64 xb) := hxb
        have hzb : wr.cell? adb = some (.int .i64 xb) := by have h := hxb; rwa [show adb.add (Int.toNat 0) = adb from by simp [Addr.add]] at h
        have hcuta := cut_from (P := Try.prog) 22 3 .i64 Try.underlying22 hi0 1 hsz0 (some ada) na ca 1 (by omega) (by omega)
        have hdra := Aside0.mk (Kd.C_drop (k := Kd.int .i64) (m := 1) (c := ca) HA.out (by rw [HLA.out]; omega) (by rw [HLA.out]; have := HCA.out; omega))
        obtain ⟨Aa', hAa'⟩ : ∃ x : Option Addr, (if ca = (1 : Int).toNat then some ada else (some ada : Option Addr).map (·.add ((1 : Int).toNat * 1))) = x := ⟨_, rfl⟩
        obtain ⟨na', hna'⟩ : ∃ x : Nat, na - (1 : Int).toNat = x := ⟨_, rfl⟩
        obtain ⟨ca', hca'⟩ : ∃ x : Nat, ca - (1 : Int).toNat = x := ⟨_, rfl⟩
        rw [hAa', hna', hca'] at hcuta
        have HAa' := Aside0.mk hAa'
        have Hna' := Aside0.mk hna'
        have Hca' := Aside0.mk hca'
        clear hAa' hna' hca'
        have hcutb := cut_from (P := Try.prog) 22 3 .i64 Try.underlying22 hi0 1 hsz0 (some adb) nb cb 1 (by omega) (by omega)
        have hdrb := Aside0.mk (Kd.C_drop (k := Kd.int .i64) (m := 1) (c := cb) HB_.out (by rw [HLB.out]; omega) (by rw [HLB.out]; have := HCB.out; omega))
        obtain ⟨Ab', hAb'⟩ : ∃ x : Option Addr, (if cb = (1 : Int).toNat then some adb else (some adb : Option Addr).map (·.add ((1 : Int).toNat * 1))) = x := ⟨_, rfl⟩
        obtain ⟨nb', hnb'⟩ : ∃ x : Nat, nb - (1 : Int).toNat = x := ⟨_, rfl⟩
        obtain ⟨cb', hcb'⟩ : ∃ x : Nat, cb - (1 : Int).toNat = x := ⟨_, rfl⟩
        rw [hAb', hnb', hcb'] at hcutb
        have HAb' := Aside0.mk hAb'
        have Hnb' := Aside0.mk hnb'
        have Hcb' := Aside0.mk hcb'
        clear hAb' hnb' hcb'
        rcases Int.lt_trichotomy xa xb with hx | hx | hx
        · have E := Aside0.mk (mergeL_lt K hla hlb (by rw [hxae, hxbe]; exact hx))
          rw [hxae] at E
          have c1 : decide (xa ≤ xb) = true := decide_eq_true (by omega)
          have c2 : decide (xb ≤ xa) = false := decide_eq_false (by omega)
          clear ha hb hla hlb hxae hxbe hx
          cases hk : K true false
          · have HK := Aside0.mk hk
            clear hk
            go_wp2_with fail
            repeat (go_quiet (fail); try go_wp2_with (first | (refine goesV_ (some 68) rfl rfl rfl rfl HF.out HN.out HY.out #[.bool true, .bool false] (by simp only [List.map_toArray, List.map_cons, List.map_nil, Array.append_empty]; rfl) ?_; refine (HG.out true false _).mono ?_; rintro e w' ⟨rfl, ⟨nd, rfl⟩⟩; rw [HK.out]; refine ⟨_, rfl, ?_⟩)))
            go_roundg (na' + nb)
            case measure => have := Hna'.out; have := Hca'.out; have := HN_.out; have := HBD.out; have := HCA.out; have := HCB.out; have := HPA.out; have := HPB.out; have e1 : (1 : Int).toNat = 1 := rfl; omega
            case rel => exact ⟨la.drop 1, lb, o, na', nb, Aa', some adb, ca', cb, rfl, rfl, ⟨by rw [List.length_drop, HLA.out]; exact Hna'.out⟩, HLB, ⟨rfl⟩, ⟨by have := Hna'.out; have := Hca'.out; have := HN_.out; have := HBD.out; have := HCA.out; have := HCB.out; have := HPA.out; have := HPB.out; have e1 : (1 : Int).toNat = 1 := rfl; omega⟩, HCB, ⟨by rw [← HAa'.out]; exact hdra.out⟩, ⟨HB_.out⟩, ⟨(by (with_reducible repeat (first | apply Kd.R_alloc | apply Kd.R_drewN | apply Kd.R_drew)); exact HO.out)⟩, ⟨(by repeat (first | (with_reducible first | exact HB.out | apply below_alloc | apply pw_below_drewN | apply below_drew1) | exact HB.out))⟩, ⟨by rw [HL.out, E.out, HK.out]; simp⟩, ⟨by have := Hna'.out; have := Hca'.out; have := HN_.out; have := HBD.out; have := HCA.out; have := HCB.out; have := HPA.out; have := HPB.out; have e1 : (1 : Int).toNat = 1 := rfl; omega⟩⟩
          · have HK := Aside0.mk hk
            clear hk
            go_wp2_with fail
            repeat (go_quiet (fail); try go_wp2_with (first | (refine goesV_ (some 68) rfl rfl rfl rfl HF.out HN.out HY.out #[.bool true, .bool false] (by simp only [List.map_toArray, List.map_cons, List.map_nil, Array.append_empty]; rfl) ?_; refine (HG.out true false _).mono ?_; rintro e w' ⟨rfl, ⟨nd, rfl⟩⟩; rw [HK.out]; refine ⟨_, rfl, ?_⟩) | ((with_reducible refine gate_builtin (b := .append) (xs := #[.tmp 69, .tmp 71]) rfl ?_); at_builtin; refine Kd.R_append (Kd.int .i64) (w0 := w) w.heap.size rfl (.tmp 69) (.tmp 71) 22 3 (.int .i64 0) 8 rfl Try.underlying22 info3 rfl (by decide) (by omega) u7 o xa [.int .i64 xa] (fun _ => True) (fun _ => False) rfl rfl ?aP (fun _ hk => hk.elim) ?aF ?aO ?aB ?aS ?aL ?_; (case aP => exact rfl); (case aB => exact (by repeat (first | (with_reducible first | exact HB.out | apply below_alloc | apply pw_below_drewN | apply below_drew1) | exact HB.out))); (case aF => exact (fun _ _ => trivial)); (case aO => exact (by (with_reducible repeat (first | apply Kd.R_alloc | apply Kd.R_drewN | apply Kd.R_drew)); exact HO.out)); (case aS => exact (below_size (by repeat (first | (with_reducible first | exact HB.out | apply below_alloc | apply pw_below_drewN | apply below_drew1) | exact HB.out)))); (case aL => have := HBD.out; omega); intro vn wn ho hb hg hat; have n0_ := Aside0.mk hb; have n1_ := Aside0.mk ho; clear HB HO; have HB := n0_; have HO := n1_; clear n0_ n1_ ho hb hg hat)))
            go_roundg (na' + nb)
            case measure => have := Hna'.out; have := Hca'.out; have := HN_.out; have := HBD.out; have := HCA.out; have := HCB.out; have := HPA.out; have := HPB.out; have e1 : (1 : Int).toNat = 1 := rfl; omega
            case rel => exact ⟨la.drop 1, lb, o ++ [xa], na', nb, Aa', some adb, ca', cb, rfl, rfl, ⟨by rw [List.length_drop, HLA.out]; exact Hna'.out⟩, HLB, ⟨rfl⟩, ⟨by have := Hna'.out; have := Hca'.out; have := HN_.out; have := HBD.out; have := HCA.out; have := HCB.out; have := HPA.out; have := HPB.out; have e1 : (1 : Int).toNat = 1 := rfl; omega⟩, HCB, ⟨by rw [← HAa'.out]; exact hdra.out⟩, ⟨HB_.out⟩, ⟨(by (with_reducible repeat (first | apply Kd.R_alloc | apply Kd.R_drewN | apply Kd.R_drew)); exact HO.out)⟩, ⟨(by repeat (first | (with_reducible first | exact HB.out | apply below_alloc | apply pw_below_drewN | apply below_drew1) | exact HB.out))⟩, ⟨by rw [HL.out, E.out, HK.out]; simp⟩, ⟨by simp only [List.length_append, List.length_cons, List.length_nil]; have := Hna'.out; have := Hca'.out; have := HN_.out; have := HBD.out; have := HCA.out; have := HCB.out; have := HPA.out; have := HPB.out; have e1 : (1 : Int).toNat = 1 := rfl; omega⟩⟩
        · have E := Aside0.mk (mergeL_eq K hla hlb (by rw [hxae, hxbe]; exact hx))
          rw [hxbe] at E
          have c1 : decide (xa ≤ xb) = true := decide_eq_true (by omega)
          have c2 : decide (xb ≤ xa) = true := decide_eq_true (by omega)
          clear ha hb hla hlb hxae hxbe hx
          cases hk : K true true
          · have HK := Aside0.mk hk
            clear hk
            go_wp2_with fail
            repeat (go_quiet (fail); try go_wp2_with (first | (refine goesV_ (some 68) rfl rfl rfl rfl HF.out HN.out HY.out #[.bool true, .bool true] (by simp only [List.map_toArray, List.map_cons, List.map_nil, Array.append_empty]; rfl) ?_; refine (HG.out true true _).mono ?_; rintro e w' ⟨rfl, ⟨nd, rfl⟩⟩; rw [HK.out]; refine ⟨_, rfl, ?_⟩)))
            go_roundg (na' + nb')
            case measure => have := Hna'.out; have := Hca'.out; have := Hnb'.out; have := Hcb'.out; have := HN_.out; have := HBD.out; have := HCA.out; have := HCB.out; have := HPA.out; have := HPB.out; have e1 : (1 : Int).toNat = 1 := rfl; omega
            case rel => exact ⟨la.drop 1, lb.drop 1, o, na', nb', Aa', Ab', ca', cb', rfl, rfl, ⟨by rw [List.length_drop, HLA.out]; exact Hna'.out⟩, ⟨by rw [List.length_drop, HLB.out]; exact Hnb'.out⟩, ⟨rfl⟩, ⟨by have := Hna'.out; have := Hca'.out; have := Hnb'.out; have := Hcb'.out; have := HN_.out; have := HBD.out; have := HCA.out; have := HCB.out; have := HPA.out; have := HPB.out; have e1 : (1 : Int).toNat = 1 := rfl; omega⟩, ⟨by have := Hna'.out; have := Hca'.out; have := Hnb'.out; have := Hcb'.out; have := HN_.out; have := HBD.out; have := HCA.out; have := HCB.out; have := HPA.out; have := HPB.out; have e1 : (1 : Int).toNat = 1 := rfl; omega⟩, ⟨by rw [← HAa'.out]; exact hdra.out⟩, ⟨by rw [← HAb'.out]; exact hdrb.out⟩, ⟨(by (with_reducible repeat (first | apply Kd.R_alloc | apply Kd.R_drewN | apply Kd.R_drew)); exact HO.out)⟩, ⟨(by repeat (first | (with_reducible first | exact HB.out | apply below_alloc | apply pw_below_drewN | apply below_drew1) | exact HB.out))⟩, ⟨by rw [HL.out, E.out, HK.out]; simp⟩, ⟨by have := Hna'.out; have := Hca'.out; have := Hnb'.out; have := Hcb'.out; have := HN_.out; have := HBD.out; have := HCA.out; have := HCB.out; have := HPA.out; have := HPB.out; have e1 : (1 : Int).toNat = 1 := rfl; omega⟩⟩
          · have HK := Aside0.mk hk
            clear hk
            go_wp2_with fail
            repeat (go_quiet (fail); try go_wp2_with (first | (refine goesV_ (some 68) rfl rfl rfl rfl HF.out HN.out HY.out #[.bool true, .bool true] (by simp only [List.map_toArray, List.map_cons, List.map_nil, Array.append_empty]; rfl) ?_; refine (HG.out true true _).mono ?_; rintro e w' ⟨rfl, ⟨nd, rfl⟩⟩; rw [HK.out]; refine ⟨_, rfl, ?_⟩) | ((with_reducible refine gate_builtin (b := .append) (xs := #[.tmp 69, .tmp 71]) rfl ?_); at_builtin; refine Kd.R_append (Kd.int .i64) (w0 := w) w.heap.size rfl (.tmp 69) (.tmp 71) 22 3 (.int .i64 0) 8 rfl Try.underlying22 info3 rfl (by decide) (by omega) u7 o xb [.int .i64 xb] (fun _ => True) (fun _ => False) rfl rfl ?aP (fun _ hk => hk.elim) ?aF ?aO ?aB ?aS ?aL ?_; (case aP => exact rfl); (case aB => exact (by repeat (first | (with_reducible first | exact HB.out | apply below_alloc | apply pw_below_drewN | apply below_drew1) | exact HB.out))); (case aF => exact (fun _ _ => trivial)); (case aO => exact (by (with_reducible repeat (first | apply Kd.R_alloc | apply Kd.R_drewN | apply Kd.R_drew)); exact HO.out)); (case aS => exact (below_size (by repeat (first | (with_reducible first | exact HB.out | apply below_alloc | apply pw_below_drewN | apply below_drew1) | exact HB.out)))); (case aL => have := HBD.out; omega); intro vn wn ho hb hg hat; have n0_ := Aside0.mk hb; have n1_ := Aside0.mk ho; clear HB HO; have HB := n0_; have HO := n1_; clear n0_ n1_ ho hb hg hat)))
            go_roundg (na' + nb')
            case measure => have := Hna'.out; have := Hca'.out; have := Hnb'.out; have := Hcb'.out; have := HN_.out; have := HBD.out; have := HCA.out; have := HCB.out; have := HPA.out; have := HPB.out; have e1 : (1 : Int).toNat = 1 := rfl; omega
            case rel => exact ⟨la.drop 1, lb.drop 1, o ++ [xb], na', nb', Aa', Ab', ca', cb', rfl, rfl, ⟨by rw [List.length_drop, HLA.out]; exact Hna'.out⟩, ⟨by rw [List.length_drop, HLB.out]; exact Hnb'.out⟩, ⟨rfl⟩, ⟨by have := Hna'.out; have := Hca'.out; have := Hnb'.out; have := Hcb'.out; have := HN_.out; have := HBD.out; have := HCA.out; have := HCB.out; have := HPA.out; have := HPB.out; have e1 : (1 : Int).toNat = 1 := rfl; omega⟩, ⟨by have := Hna'.out; have := Hca'.out; have := Hnb'.out; have := Hcb'.out; have := HN_.out; have := HBD.out; have := HCA.out; have := HCB.out; have := HPA.out; have := HPB.out; have e1 : (1 : Int).toNat = 1 := rfl; omega⟩, ⟨by rw [← HAa'.out]; exact hdra.out⟩, ⟨by rw [← HAb'.out]; exact hdrb.out⟩, ⟨(by (with_reducible repeat (first | apply Kd.R_alloc | apply Kd.R_drewN | apply Kd.R_drew)); exact HO.out)⟩, ⟨(by repeat (first | (with_reducible first | exact HB.out | apply below_alloc | apply pw_below_drewN | apply below_drew1) | exact HB.out))⟩, ⟨by rw [HL.out, E.out, HK.out]; simp⟩, ⟨by simp only [List.length_append, List.length_cons, List.length_nil]; have := Hna'.out; have := Hca'.out; have := Hnb'.out; have := Hcb'.out; have := HN_.out; have := HBD.out; have := HCA.out; have := HCB.out; have := HPA.out; have := HPB.out; have e1 : (1 : Int).toNat = 1 := rfl; omega⟩⟩
        · have E := Aside0.mk (mergeL_gt K hla hlb (by rw [hxae, hxbe]; exact hx))
          rw [hxbe] at E
          have c1 : decide (xa ≤ xb) = false := decide_eq_false (by omega)
          have c2 : decide (xb ≤ xa) = true := decide_eq_true (by omega)
          clear ha hb hla hlb hxae hxbe hx
          cases hk : K false true
          · have HK := Aside0.mk hk
            clear hk
            go_wp2_with fail
            repeat (go_quiet (fail); try go_wp2_with (first | (refine goesV_ (some 68) rfl rfl rfl rfl HF.out HN.out HY.out #[.bool false, .bool true] (by simp only [List.map_toArray, List.map_cons, List.map_nil, Array.append_empty]; rfl) ?_; refine (HG.out false true _).mono ?_; rintro e w' ⟨rfl, ⟨nd, rfl⟩⟩; rw [HK.out]; refine ⟨_, rfl, ?_⟩)))
            go_roundg (na + nb')
            case measure => have := Hnb'.out; have := Hcb'.out; have := HN_.out; have := HBD.out; have := HCA.out; have := HCB.out; have := HPA.out; have := HPB.out; have e1 : (1 : Int).toNat = 1 := rfl; omega
            case rel => exact ⟨la, lb.drop 1, o, na, nb', some ada, Ab', ca, cb', rfl, rfl, HLA, ⟨by rw [List.length_drop, HLB.out]; exact Hnb'.out⟩, ⟨rfl⟩, HCA, ⟨by have := Hnb'.out; have := Hcb'.out; have := HN_.out; have := HBD.out; have := HCA.out; have := HCB.out; have := HPA.out; have := HPB.out; have e1 : (1 : Int).toNat = 1 := rfl; omega⟩, ⟨HA.out⟩, ⟨by rw [← HAb'.out]; exact hdrb.out⟩, ⟨(by (with_reducible repeat (first | apply Kd.R_alloc | apply Kd.R_drewN | apply Kd.R_drew)); exact HO.out)⟩, ⟨(by repeat (first | (with_reducible first | exact HB.out | apply below_alloc | apply pw_below_drewN | apply below_drew1) | exact HB.out))⟩, ⟨by rw [HL.out, E.out, HK.out]; simp⟩, ⟨by have := Hnb'.out; have := Hcb'.out; have := HN_.out; have := HBD.out; have := HCA.out; have := HCB.out; have := HPA.out; have := HPB.out; have e1 : (1 : Int).toNat = 1 := rfl; omega⟩⟩
          · have HK := Aside0.mk hk
            clear hk
            go_wp2_with fail
            repeat (go_quiet (fail); try go_wp2_with (first | (refine goesV_ (some 68) rfl rfl rfl rfl HF.out HN.out HY.out #[.bool false, .bool true] (by simp only [List.map_toArray, List.map_cons, List.map_nil, Array.append_empty]; rfl) ?_; refine (HG.out false true _).mono ?_; rintro e w' ⟨rfl, ⟨nd, rfl⟩⟩; rw [HK.out]; refine ⟨_, rfl, ?_⟩) | ((with_reducible refine gate_builtin (b := .append) (xs := #[.tmp 69, .tmp 71]) rfl ?_); at_builtin; refine Kd.R_append (Kd.int .i64) (w0 := w) w.heap.size rfl (.tmp 69) (.tmp 71) 22 3 (.int .i64 0) 8 rfl Try.underlying22 info3 rfl (by decide) (by omega) u7 o xb [.int .i64 xb] (fun _ => True) (fun _ => False) rfl rfl ?aP (fun _ hk => hk.elim) ?aF ?aO ?aB ?aS ?aL ?_; (case aP => exact rfl); (case aB => exact (by repeat (first | (with_reducible first | exact HB.out | apply below_alloc | apply pw_below_drewN | apply below_drew1) | exact HB.out))); (case aF => exact (fun _ _ => trivial)); (case aO => exact (by (with_reducible repeat (first | apply Kd.R_alloc | apply Kd.R_drewN | apply Kd.R_drew)); exact HO.out)); (case aS => exact (below_size (by repeat (first | (with_reducible first | exact HB.out | apply below_alloc | apply pw_below_drewN | apply below_drew1) | exact HB.out)))); (case aL => have := HBD.out; omega); intro vn wn ho hb hg hat; have n0_ := Aside0.mk hb; have n1_ := Aside0.mk ho; clear HB HO; have HB := n0_; have HO := n1_; clear n0_ n1_ ho hb hg hat)))
            go_roundg (na + nb')
            case measure => have := Hnb'.out; have := Hcb'.out; have := HN_.out; have := HBD.out; have := HCA.out; have := HCB.out; have := HPA.out; have := HPB.out; have e1 : (1 : Int).toNat = 1 := rfl; omega
            case rel => exact ⟨la, lb.drop 1, o ++ [xb], na, nb', some ada, Ab', ca, cb', rfl, rfl, HLA, ⟨by rw [List.length_drop, HLB.out]; exact Hnb'.out⟩, ⟨rfl⟩, HCA, ⟨by have := Hnb'.out; have := Hcb'.out; have := HN_.out; have := HBD.out; have := HCA.out; have := HCB.out; have := HPA.out; have := HPB.out; have e1 : (1 : Int).toNat = 1 := rfl; omega⟩, ⟨HA.out⟩, ⟨by rw [← HAb'.out]; exact hdrb.out⟩, ⟨(by (with_reducible repeat (first | apply Kd.R_alloc | apply Kd.R_drewN | apply Kd.R_drew)); exact HO.out)⟩, ⟨(by repeat (first | (with_reducible first | exact HB.out | apply below_alloc | apply pw_below_drewN | apply below_drew1) | exact HB.out))⟩, ⟨by rw [HL.out, E.out, HK.out]; simp⟩, ⟨by simp only [List.length_append, List.length_cons, List.length_nil]; have := Hnb'.out; have := Hcb'.out; have := HN_.out; have := HBD.out; have := HCA.out; have := HCB.out; have := HPA.out; have := HPB.out; have e1 : (1 : Int).toNat = 1 := rfl; omega⟩⟩
      · have hla : 0 < la.length := by rw [HLA.out]; exact ha
        have hb0 : nb = 0 := by omega
        have hlb : lb.length = 0 := by rw [HLB.out]; exact hb0
        have a1 : decide (0 < (na : Int)) = true := decide_eq_true (by omega)
        have a2 : decide (0 < na) = true := decide_eq_true (by omega)
        have a3 : ((na : Int) == 0) = false := by exact beq_eq_false_iff_ne.mpr (by omega)
        have a4 : (na == 0) = false := by exact beq_eq_false_iff_ne.mpr (by omega)
        have b1 : decide (0 < (nb : Int)) = false := decide_eq_false (by omega)
        have b2 : decide (0 < nb) = false := decide_eq_false (by omega)
        have b3 : ((nb : Int) == 0) = true := by exact beq_iff_eq.mpr (by omega)
        have b4 : (nb == 0) = true := by exact beq_iff_eq.mpr (by omega)
        have HPA := Aside0.mk (show 0 < na from by omega)
        have HPB := Aside0.mk (show nb = 0 from by omega)
        obtain ⟨ada, e, hxa⟩ := Kd.at_int HA.out 0 (by omega) (by rw [HLA.out]; omega)
        cases e
        replace hxa := (HB.out.cell (World.block_lt_of_cell? w _ hxa)).trans hxa
        obtain ⟨xa, hxae⟩ : ∃ x, rd la 0 = x := ⟨_, rfl⟩
        rw [hxae] at hxa
        have qa : ((0 : Int) < (na : Int)) = True := eq_true (by omega)
        have qa2 : (0 < na) = True := eq_true (by omega)
        have qa3 : (na = 0) = False := eq_false (by omega)
        have hya : wr.cell? (ada.add 0) = some (.int .i64 xa) := hxa
        have hza : wr.cell? ada = some (.int .i64 xa) := by have h := hxa; rwa [show ada.add (Int.toNat 0) = ada from by simp [Addr.add]] at h
        have hcuta := cut_from (P := Try.prog) 22 3 .i64 Try.underlying22 hi0 1 hsz0 (some ada) na ca 1 (by omega) (by omega)
        have hdra := Aside0.mk (Kd.C_drop (k := Kd.int .i64) (m := 1) (c := ca) HA.out (by rw [HLA.out]; omega) (by rw [HLA.out]; have := HCA.out; omega))
        obtain ⟨Aa', hAa'⟩ : ∃ x : Option Addr, (if ca = (1 : Int).toNat then some ada else (some ada : Option Addr).map (·.add ((1 : Int).toNat * 1))) = x := ⟨_, rfl⟩
        obtain ⟨na', hna'⟩ : ∃ x : Nat, na - (1 : Int).toNat = x := ⟨_, rfl⟩
        obtain ⟨ca', hca'⟩ : ∃ x : Nat, ca - (1 : Int).toNat = x := ⟨_, rfl⟩
        rw [hAa', hna', hca'] at hcuta
        have HAa' := Aside0.mk hAa'
        have Hna' := Aside0.mk hna'
        have Hca' := Aside0.mk hca'
        clear hAa' hna' hca'
        have E := Aside0.mk (mergeL_a K hla hlb)
        rw [hxae] at E
        clear ha hb hb0 hla hlb hxae
        cases hk : K true false
        · have HK := Aside0.mk hk
          clear hk
          go_wp2_with fail
          repeat (go_quiet (fail); try go_wp2_with (first | (refine goesV_ (some 68) rfl rfl rfl rfl HF.out HN.out HY.out #[.bool true, .bool false] (by simp only [List.map_toArray, List.map_cons, List.map_nil, Array.append_empty]; rfl) ?_; refine (HG.out true false _).mono ?_; rintro e w' ⟨rfl, ⟨nd, rfl⟩⟩; rw [HK.out]; refine ⟨_, rfl, ?_⟩)))
          go_roundg (na' + nb)
          case measure => have := Hna'.out; have := Hca'.out; have := HN_.out; have := HBD.out; have := HCA.out; have := HCB.out; have := HPA.out; have := HPB.out; have e1 : (1 : Int).toNat = 1 := rfl; omega
          case rel => exact ⟨la.drop 1, lb, o, na', nb, Aa', Ab, ca', cb, rfl, rfl, ⟨by rw [List.length_drop, HLA.out]; exact Hna'.out⟩, HLB, ⟨rfl⟩, ⟨by have := Hna'.out; have := Hca'.out; have := HN_.out; have := HBD.out; have := HCA.out; have := HCB.out; have := HPA.out; have := HPB.out; have e1 : (1 : Int).toNat = 1 := rfl; omega⟩, HCB, ⟨by rw [← HAa'.out]; exact hdra.out⟩, ⟨HB_.out⟩, ⟨(by (with_reducible repeat (first | apply Kd.R_alloc | apply Kd.R_drewN | apply Kd.R_drew)); exact HO.out)⟩, ⟨(by repeat (first | (with_reducible first | exact HB.out | apply below_alloc | apply pw_below_drewN | apply below_drew1) | exact HB.out))⟩, ⟨by rw [HL.out, E.out, HK.out]; simp⟩, ⟨by have := Hna'.out; have := Hca'.out; have := HN_.out; have := HBD.out; have := HCA.out; have := HCB.out; have := HPA.out; have := HPB.out; have e1 : (1 : Int).toNat = 1 := rfl; omega⟩⟩
        · have HK := Aside0.mk hk
          clear hk
          go_wp2_with fail
          repeat (go_quiet (fail); try go_wp2_with (first | (refine goesV_ (some 68) rfl rfl rfl rfl HF.out HN.out HY.out #[.bool true, .bool false] (by simp only [List.map_toArray, List.map_cons, List.map_nil, Array.append_empty]; rfl) ?_; refine (HG.out true false _).mono ?_; rintro e w' ⟨rfl, ⟨nd, rfl⟩⟩; rw [HK.out]; refine ⟨_, rfl, ?_⟩) | ((with_reducible refine gate_builtin (b := .append) (xs := #[.tmp 69, .tmp 71]) rfl ?_); at_builtin; refine Kd.R_append (Kd.int .i64) (w0 := w) w.heap.size rfl (.tmp 69) (.tmp 71) 22 3 (.int .i64 0) 8 rfl Try.underlying22 info3 rfl (by decide) (by omega) u7 o xa [.int .i64 xa] (fun _ => True) (fun _ => False) rfl rfl ?aP (fun _ hk => hk.elim) ?aF ?aO ?aB ?aS ?aL ?_; (case aP => exact rfl); (case aB => exact (by repeat (first | (with_reducible first | exact HB.out | apply below_alloc | apply pw_below_drewN | apply below_drew1) | exact HB.out))); (case aF => exact (fun _ _ => trivial)); (case aO => exact (by (with_reducible repeat (first | apply Kd.R_alloc | apply Kd.R_drewN | apply Kd.R_drew)); exact HO.out)); (case aS => exact (below_size (by repeat (first | (with_reducible first | exact HB.out | apply below_alloc | apply pw_below_drewN | apply below_drew1) | exact HB.out)))); (case aL => have := HBD.out; omega); intro vn wn ho hb hg hat; have n0_ := Aside0.mk hb; have n1_ := Aside0.mk ho; clear HB HO; have HB := n0_; have HO := n1_; clear n0_ n1_ ho hb hg hat)))
          go_roundg (na' + nb)
          case measure => have := Hna'.out; have := Hca'.out; have := HN_.out; have := HBD.out; have := HCA.out; have := HCB.out; have := HPA.out; have := HPB.out; have e1 : (1 : Int).toNat = 1 := rfl; omega
          case rel => exact ⟨la.drop 1, lb, o ++ [xa], na', nb, Aa', Ab, ca', cb, rfl, rfl, ⟨by rw [List.length_drop, HLA.out]; exact Hna'.out⟩, HLB, ⟨rfl⟩, ⟨by have := Hna'.out; have := Hca'.out; have := HN_.out; have := HBD.out; have := HCA.out; have := HCB.out; have := HPA.out; have := HPB.out; have e1 : (1 : Int).toNat = 1 := rfl; omega⟩, HCB, ⟨by rw [← HAa'.out]; exact hdra.out⟩, ⟨HB_.out⟩, ⟨(by (with_reducible repeat (first | apply Kd.R_alloc | apply Kd.R_drewN | apply Kd.R_drew)); exact HO.out)⟩, ⟨(by repeat (first | (with_reducible first | exact HB.out | apply below_alloc | apply pw_below_drewN | apply below_drew1) | exact HB.out))⟩, ⟨by rw [HL.out, E.out, HK.out]; simp⟩, ⟨by simp only [List.length_append, List.length_cons, List.length_nil]; have := Hna'.out; have := Hca'.out; have := HN_.out; have := HBD.out; have := HCA.out; have := HCB.out; have := HPA.out; have := HPB.out; have e1 : (1 : Int).toNat = 1 := rfl; omega⟩⟩
    · by_cases hb : 0 < nb
      · have ha0 : na = 0 := by omega
        have hla : la.length = 0 := by rw [HLA.out]; exact ha0
        have hlb : 0 < lb.length := by rw [HLB.out]; exact hb
        have a1 : decide (0 < (na : Int)) = false := decide_eq_false (by omega)
        have a2 : decide (0 < na) = false := decide_eq_false (by omega)
        have a3 : ((na : Int) == 0) = true := by exact beq_iff_eq.mpr (by omega)
        have a4 : (na == 0) = true := by exact beq_iff_eq.mpr (by omega)
        have b1 : decide (0 < (nb : Int)) = true := decide_eq_true (by omega)
        have b2 : decide (0 < nb) = true := decide_eq_true (by omega)
        have b3 : ((nb : Int) == 0) = false := by exact beq_eq_false_iff_ne.mpr (by omega)
        have b4 : (nb == 0) = false := by exact beq_eq_false_iff_ne.mpr (by omega)
        have HPA := Aside0.mk (show na = 0 from by omega)
        have HPB := Aside0.mk (show 0 < nb from by omega)
        obtain ⟨adb, e, hxb⟩ := Kd.at_int HB_.out 0 (by omega) (by rw [HLB.out]; omega)
        cases e
        replace hxb := (HB.out.cell (World.block_lt_of_cell? w _ hxb)).trans hxb
        obtain ⟨xb, hxbe⟩ : ∃ x, rd lb 0 = x := ⟨_, rfl⟩
        rw [hxbe] at hxb
        have qb : ((0 : Int) < (nb : Int)) = True := eq_true (by omega)
        have qb2 : (0 < nb) = True := eq_true (by omega)
        have qb3 : (nb = 0) = False := eq_false (by omega)
        have hyb : wr.cell? (adb.add 0) = some (.int .i64 xb) := hxb
        have hzb : wr.cell? adb = some (.int .i64 xb) := by have h := hxb; rwa [show adb.add (Int.toNat 0) = adb from by simp [Addr.add]] at h
        have hcutb := cut_from (P := Try.prog) 22 3 .i64 Try.underlying22 hi0 1 hsz0 (some adb) nb cb 1 (by omega) (by omega)
        have hdrb := Aside0.mk (Kd.C_drop (k := Kd.int .i64) (m := 1) (c := cb) HB_.out (by rw [HLB.out]; omega) (by rw [HLB.out]; have := HCB.out; omega))
        obtain ⟨Ab', hAb'⟩ : ∃ x : Option Addr, (if cb = (1 : Int).toNat then some adb else (some adb : Option Addr).map (·.add ((1 : Int).toNat * 1))) = x := ⟨_, rfl⟩
        obtain ⟨nb', hnb'⟩ : ∃ x : Nat, nb - (1 : Int).toNat = x := ⟨_, rfl⟩
        obtain ⟨cb', hcb'⟩ : ∃ x : Nat, cb - (1 : Int).toNat = x := ⟨_, rfl⟩
        rw [hAb', hnb', hcb'] at hcutb
        have HAb' := Aside0.mk hAb'
        have Hnb' := Aside0.mk hnb'
        have Hcb' := Aside0.mk hcb'
        clear hAb' hnb' hcb'
        have E := Aside0.mk (mergeL_b K hla hlb)
        rw [hxbe] at E
        clear ha hb ha0 hla hlb hxbe
        cases hk : K false true
        · have HK := Aside0.mk hk
          clear hk
          go_wp2_with fail
          repeat (go_quiet (fail); try go_wp2_with (first | (refine goesV_ (some 68) rfl rfl rfl rfl HF.out HN.out HY.out #[.bool false, .bool true] (by simp only [List.map_toArray, List.map_cons, List.map_nil, Array.append_empty]; rfl) ?_; refine (HG.out false true _).mono ?_; rintro e w' ⟨rfl, ⟨nd, rfl⟩⟩; rw [HK.out]; refine ⟨_, rfl, ?_⟩)))
          go_roundg (na + nb')
          case measure => have := Hnb'.out; have := Hcb'.out; have := HN_.out; have := HBD.out; have := HCA.out; have := HCB.out; have := HPA.out; have := HPB.out; have e1 : (1 : Int).toNat = 1 := rfl; omega
          case rel => exact ⟨la, lb.drop 1, o, na, nb', Aa, Ab', ca, cb', rfl, rfl, HLA, ⟨by rw [List.length_drop, HLB.out]; exact Hnb'.out⟩, ⟨rfl⟩, HCA, ⟨by have := Hnb'.out; have := Hcb'.out; have := HN_.out; have := HBD.out; have := HCA.out; have := HCB.out; have := HPA.out; have := HPB.out; have e1 : (1 : Int).toNat = 1 := rfl; omega⟩, ⟨HA.out⟩, ⟨by rw [← HAb'.out]; exact hdrb.out⟩, ⟨(by (with_reducible repeat (first | apply Kd.R_alloc | apply Kd.R_drewN | apply Kd.R_drew)); exact HO.out)⟩, ⟨(by repeat (first | (with_reducible first | exact HB.out | apply below_alloc | apply pw_below_drewN | apply below_drew1) | exact HB.out))⟩, ⟨by rw [HL.out, E.out, HK.out]; simp⟩, ⟨by have := Hnb'.out; have := Hcb'.out; have := HN_.out; have := HBD.out; have := HCA.out; have := HCB.out; have := HPA.out; have := HPB.out; have e1 : (1 : Int).toNat = 1 := rfl; omega⟩⟩
        · have HK := Aside0.mk hk
          clear hk
          go_wp2_with fail
          repeat (go_quiet (fail); try go_wp2_with (first | (refine goesV_ (some 68) rfl rfl rfl rfl HF.out HN.out HY.out #[.bool false, .bool true] (by simp only [List.map_toArray, List.map_cons, List.map_nil, Array.append_empty]; rfl) ?_; refine (HG.out false true _).mono ?_; rintro e w' ⟨rfl, ⟨nd, rfl⟩⟩; rw [HK.out]; refine ⟨_, rfl, ?_⟩) | ((with_reducible refine gate_builtin (b := .append) (xs := #[.tmp 69, .tmp 71]) rfl ?_); at_builtin; refine Kd.R_append (Kd.int .i64) (w0 := w) w.heap.size rfl (.tmp 69) (.tmp 71) 22 3 (.int .i64 0) 8 rfl Try.underlying22 info3 rfl (by decide) (by omega) u7 o xb [.int .i64 xb] (fun _ => True) (fun _ => False) rfl rfl ?aP (fun _ hk => hk.elim) ?aF ?aO ?aB ?aS ?aL ?_; (case aP => exact rfl); (case aB => exact (by repeat (first | (with_reducible first | exact HB.out | apply below_alloc | apply pw_below_drewN | apply below_drew1) | exact HB.out))); (case aF => exact (fun _ _ => trivial)); (case aO => exact (by (with_reducible repeat (first | apply Kd.R_alloc | apply Kd.R_drewN | apply Kd.R_drew)); exact HO.out)); (case aS => exact (below_size (by repeat (first | (with_reducible first | exact HB.out | apply below_alloc | apply pw_below_drewN | apply below_drew1) | exact HB.out)))); (case aL => have := HBD.out; omega); intro vn wn ho hb hg hat; have n0_ := Aside0.mk hb; have n1_ := Aside0.mk ho; clear HB HO; have HB := n0_; have HO := n1_; clear n0_ n1_ ho hb hg hat)))
          go_roundg (na + nb')
          case measure => have := Hnb'.out; have := Hcb'.out; have := HN_.out; have := HBD.out; have := HCA.out; have := HCB.out; have := HPA.out; have := HPB.out; have e1 : (1 : Int).toNat = 1 := rfl; omega
          case rel => exact ⟨la, lb.drop 1, o ++ [xb], na, nb', Aa, Ab', ca, cb', rfl, rfl, HLA, ⟨by rw [List.length_drop, HLB.out]; exact Hnb'.out⟩, ⟨rfl⟩, HCA, ⟨by have := Hnb'.out; have := Hcb'.out; have := HN_.out; have := HBD.out; have := HCA.out; have := HCB.out; have := HPA.out; have := HPB.out; have e1 : (1 : Int).toNat = 1 := rfl; omega⟩, ⟨HA.out⟩, ⟨by rw [← HAb'.out]; exact hdrb.out⟩, ⟨(by (with_reducible repeat (first | apply Kd.R_alloc | apply Kd.R_drewN | apply Kd.R_drew)); exact HO.out)⟩, ⟨(by repeat (first | (with_reducible first | exact HB.out | apply below_alloc | apply pw_below_drewN | apply below_drew1) | exact HB.out))⟩, ⟨by rw [HL.out, E.out, HK.out]; simp⟩, ⟨by simp only [List.length_append, List.length_cons, List.length_nil]; have := Hnb'.out; have := Hcb'.out; have := HN_.out; have := HBD.out; have := HCA.out; have := HCB.out; have := HPA.out; have := HPB.out; have e1 : (1 : Int).toNat = 1 := rfl; omega⟩⟩
      · have E := Aside0.mk (mergeL_nil K (show la.length = 0 by rw [HLA.out]; omega) (show lb.length = 0 by rw [HLB.out]; omega))
        have a1 : decide (0 < (na : Int)) = false := decide_eq_false (by omega)
        have a2 : decide (0 < na) = false := decide_eq_false (by omega)
        have a3 : ((na : Int) == 0) = true := by exact beq_iff_eq.mpr (by omega)
        have a4 : (na == 0) = true := by exact beq_iff_eq.mpr (by omega)
        have b1 : decide (0 < (nb : Int)) = false := decide_eq_false (by omega)
        have b2 : decide (0 < nb) = false := decide_eq_false (by omega)
        have b3 : ((nb : Int) == 0) = true := by exact beq_iff_eq.mpr (by omega)
        have b4 : (nb == 0) = true := by exact beq_iff_eq.mpr (by omega)
        clear ha hb
        go_wp2
        go_ret
        exact ⟨_, rfl, by rw [HL.out, E.out, List.append_nil]; exact HO.out, HB.out⟩

/-! ### impl_merged: function 57 -/
def impl_merged.f (k : Nat) (K : Bool → Bool → Bool) (l0 l1 : List Int) : Option (List Int) := (impl_ListOk.f k l0).bind fun a => (impl_ListOk.f k l1).bind fun b => if (a && b) = true then (if l0.length + l1.length ≤ 1000000 then some (mergeL K l0 l1) else none) else some []
theorem impl_merged.mono (K : Bool → Bool → Bool) : ∀ a0 a1 k, LeO (impl_merged.f k K a0 a1) (impl_merged.f (k + 1) K a0 a1) := by
  intro a0 a1 k
  unfold impl_merged.f
  exact LeO.bind (impl_ListOk.mono _ _) (fun _ => LeO.bind (impl_ListOk.mono _ _) (fun _ => LeO.refl _))
set_option maxHeartbeats 4000000 in
set_option maxRecDepth 100000 in
theorem impl_merged.calls (g : Nat) (fn : Func) (hf : Try.prog.funcs[g]? = some fn) (hname : (fn.name == "runtime.NumGoroutine") = false) (hbody : fn.body.isSome = true) (K : Bool → Bool → Bool) (hg : ∀ (x y : Bool) (W : World), Calls Try.prog g #[.bool x, .bool y] W fun e w' => e = .returned (.bool (K x y)) ∧ Drawn0 W w')
    (k : Nat) (A0 : Option Addr) (c0 : Nat) (l0 : List Int) (A1 : Option Addr) (c1 : Nat) (l1 : List Int) (r : List Int) (w : World) (hr0 : Kd.C (Kd.int .i64) w A0 l0.length l0) (hc0 : l0.length ≤ c0) (hr1 : Kd.C (Kd.int .i64) w A1 l1.length l1) (hc1 : l1.length ≤ c1) (h : impl_merged.f k K l0 l1 = some r) :
    Calls Try.prog 57 #[.slice A0 l0.length c0, .slice A1 l1.length c1, .func (.func g) #[] #[]] w fun e w' => ∃ v0_ : Value, e = .returned (v0_) ∧ Kd.R (Kd.int .i64) 3 w' w.heap.size (fun _ => True) v0_ r ∧ Below w.heap.size w w' := by
  unfold impl_merged.f at h
  obtain ⟨a, ha, h⟩ := Option.bind_eq_some_iff.mp h
  obtain ⟨b, hb, h⟩ := Option.bind_eq_some_iff.mp h
  have H0 : ∀ W, Below w.heap.size w W → Calls Try.prog 26 #[.slice A0 l0.length c0] W fun e w' => e = .returned (.bool a) ∧ Drawn0 W w' := fun W hB => impl_ListOk.calls k A0 c0 l0 a W (Kd.C_below hr0 hB) hc0 ha
  have H1 : ∀ W, Below w.heap.size w W → Calls Try.prog 26 #[.slice A1 l1.length c1] W fun e w' => e = .returned (.bool b) ∧ Drawn0 W w' := fun W hB => impl_ListOk.calls k A1 c1 l1 b W (Kd.C_below hr1 hB) hc1 hb
  have C0 := Aside0.mk H0
  have C1 := Aside0.mk H1
  have HM : ∀ W, Below w.heap.size w W → l0.length + l1.length ≤ 1000000 → Calls Try.prog 91 #[.slice A0 l0.length c0, .slice A1 l1.length c1, .func (.func g) #[] #[]] W fun e w' => ∃ v0_ : Value, e = .returned (v0_) ∧ Kd.R (Kd.int .i64) 3 w' W.heap.size (fun _ => True) v0_ (mergeL K l0 l1) ∧ Below W.heap.size W w' := fun W hB hb => impl_merge_int.calls g fn hf hname hbody K hg A0 c0 l0 A1 c1 l1 W (Kd.C_below hr0 hB) hc0 (Kd.C_below hr1 hB) hc1 hb
  have C2 := Aside0.mk HM
  clear H0 H1 HM ha hb hg hf hr0 hr1
  have HR := Aside0.mk h
  clear h
  obtain ⟨n0, hn0⟩ : ∃ n, l0.length = n := ⟨_, rfl⟩
  obtain ⟨n1, hn1⟩ : ∃ n, l1.length = n := ⟨_, rfl⟩
  rw [hn0, hn1] at C2 HR
  rw [hn0] at C0 hc0 ⊢
  rw [hn1] at C1 hc1 ⊢
  clear hn0 hn1 hc0 hc1
  go_enter Try.func57, Try.ntmps57
  cases a
  · go_wp2_with (refine goesL_ (some 8) rfl rfl Try.func26 (by kernel_rfl) rfl #[.slice A0 n0 c0] rfl (by simp only [List.map_toArray, List.map_cons, List.map_nil]; rfl) ?_; refine (C0.out _ (by repeat (first | exact Below.refl _ _ | apply below_alloc | apply pw_below_drewN | apply below_drew1))).mono ?_; rintro e w' ⟨rfl, ⟨nd, rfl⟩⟩; refine ⟨_, rfl, ?_⟩)
    go_ret
    obtain rfl : [] = r := by have h := HR.out; simpa using h
    exact ⟨_, rfl, Kd.R_nil _ _ _ _ _, pw_below_drewN (Below.refl _ _) _⟩
  · cases b
    · go_wp2_with (refine goesL_ (some 8) rfl rfl Try.func26 (by kernel_rfl) rfl #[.slice A0 n0 c0] rfl (by simp only [List.map_toArray, List.map_cons, List.map_nil]; rfl) ?_; refine (C0.out _ (by repeat (first | exact Below.refl _ _ | apply below_alloc | apply pw_below_drewN | apply below_drew1))).mono ?_; rintro e w' ⟨rfl, ⟨nd, rfl⟩⟩; refine ⟨_, rfl, ?_⟩)
      refine (C1.out _ (by repeat (first | exact Below.refl _ _ | apply below_alloc | apply pw_below_drewN | apply below_drew1))).mono ?_
      rintro e w' ⟨rfl, ⟨nd2, rfl⟩⟩
      go_wp2
      go_ret
      obtain rfl : [] = r := by have h := HR.out; simpa using h
      exact ⟨_, rfl, Kd.R_nil _ _ _ _ _, pw_below_drewN (Below.refl _ _) _⟩
    · have hb : n0 + n1 ≤ 1000000 := by
        have h := HR.out
        rw [if_pos (show (true && true) = true from rfl)] at h
        split at h
        · assumption
        · cases h
      have HB := Aside0.mk hb
      have hr : r = mergeL K l0 l1 := by
        have h := HR.out
        rw [if_pos (show (true && true) = true from rfl), if_pos hb] at h
        exact (Option.some.inj h).symm
      have HE := Aside0.mk hr
      clear hr hb
      go_wp2_with (refine goesL_ (some 8) rfl rfl Try.func26 (by kernel_rfl) rfl #[.slice A0 n0 c0] rfl (by simp only [List.map_toArray, List.map_cons, List.map_nil]; rfl) ?_; refine (C0.out _ (by repeat (first | exact Below.refl _ _ | apply below_alloc | apply pw_below_drewN | apply below_drew1))).mono ?_; rintro e w' ⟨rfl, ⟨nd, rfl⟩⟩; refine ⟨_, rfl, ?_⟩)
      refine (C1.out _ (by repeat (first | exact Below.refl _ _ | apply below_alloc | apply pw_below_drewN | apply below_drew1))).mono ?_
      rintro e w' ⟨rfl, ⟨nd2, rfl⟩⟩
      go_wp2_with (refine goesL_ (some 18) rfl rfl Try.func91 (by kernel_rfl) rfl #[.slice A0 n0 c0, .slice A1 n1 c1, .func (.func g) #[] #[]] rfl (by simp only [List.map_toArray, List.map_cons, List.map_nil]; rfl) ?_; refine (C2.out _ (by repeat (first | exact Below.refl _ _ | apply below_alloc | apply pw_below_drewN | apply below_drew1)) HB.out).mono ?_; rintro e w' ⟨v0, rfl, hv, hbw⟩; refine ⟨_, rfl, ?_⟩)
      go_ret
      exact ⟨_, rfl, by rw [HE.out]; exact hv, Below.trans (by repeat (first | exact Below.refl _ _ | apply below_alloc | apply pw_below_drewN | apply below_drew1)) hbw⟩

/-! ### impl_ListBoth: function 16 -/
def impl_ListBoth.f (k : Nat) (l0 l1 : List Int) : Option (List Int) := impl_merged.f k (fun x y => x && y) l0 l1
theorem impl_ListBoth.mono : ∀ a0 a1 k, LeO (impl_ListBoth.f k a0 a1) (impl_ListBoth.f (k + 1) a0 a1) := fun a0 a1 k => impl_merged.mono _ a0 a1 k
theorem impl_ListBoth.keep (x y : Bool) (W : World) : Calls Try.prog 58 #[.bool x, .bool y] W fun e w' => e = .returned (.bool (x && y)) ∧ Drawn0 W w' := by
  cases x <;> cases y <;> (go_enter Try.func58, Try.ntmps58; go_wp2; go_ret; exact ⟨rfl, ⟨0, rfl⟩⟩)
set_option maxHeartbeats 4000000 in
set_option maxRecDepth 100000 in
theorem impl_ListBoth.calls (k : Nat) (A0 : Option Addr) (c0 : Nat) (l0 : List Int) (A1 : Option Addr) (c1 : Nat) (l1 : List Int) (r : List Int) (w : World) (hr0 : Kd.C (Kd.int .i64) w A0 l0.length l0) (hc0 : l0.length ≤ c0) (hr1 : Kd.C (Kd.int .i64) w A1 l1.length l1) (hc1 : l1.length ≤ c1) (h : impl_ListBoth.f k l0 l1 = some r) :
    Calls Try.prog 16 #[.slice A0 l0.length c0, .slice A1 l1.length c1] w fun e w' => ∃ v0_ : Value, e = .returned (v0_) ∧ Kd.R (Kd.int .i64) 3 w' w.heap.size (fun _ => True) v0_ r ∧ Below w.heap.size w w' := by
  have C := Aside0.mk (fun W hB => impl_merged.calls 58 Try.f58 Try.func58 (by kernel_rfl) (by kernel_rfl) (fun x y => x && y) impl_ListBoth.keep k A0 c0 l0 A1 c1 l1 r W (Kd.C_below hr0 hB) hc0 (Kd.C_below hr1 hB) hc1 h)
  clear hr0 hr1 h
  obtain ⟨n0, hn0⟩ : ∃ n, l0.length = n := ⟨_, rfl⟩
  obtain ⟨n1, hn1⟩ : ∃ n, l1.length = n := ⟨_, rfl⟩
  rw [hn0, hn1] at C ⊢
  clear hn0 hn1 hc0 hc1
  go_enter Try.func16, Try.ntmps16
  go_wp2_with (refine goesL_ (some 7) rfl rfl Try.func57 (by kernel_rfl) rfl #[.slice A0 n0 c0, .slice A1 n1 c1, .func (.func 58) #[] #[]] rfl (by simp only [List.map_toArray, List.map_cons, List.map_nil]; rfl) ?_; refine (C.out _ (Below.refl _ _)).mono ?_; rintro e w' ⟨v0, rfl, hv, hbw⟩; refine ⟨_, rfl, ?_⟩)
  go_ret
  exact ⟨_, rfl, hv, hbw⟩

/-! ### spec_ListOk: function 27 -/
def spec_ListOk.l0 : Nat → List Int → Int → Option (Bool)
  | 0, _, _ => none
  | k + 1, x0, x3 => if x3 < (x0.length : Int) then (if 0 ≤ x3 then (if (rd x0 x3) < 0 then (some false) else (if x3 > 0 then (if 0 ≤ (wrap64 (x3 - 1)) then (if (wrap64 (x3 - 1)) < (x0.length : Int) then (if (rd x0 (wrap64 (x3 - 1))) ≥ (rd x0 x3) then (some false) else (spec_ListOk.l0 k x0 (wrap64 (x3 + 1)))) else (none)) else (none)) else (spec_ListOk.l0 k x0 (wrap64 (x3 + 1))))) else (none)) else (some (decide ((x0.length : Int) ≤ 40)))
def spec_ListOk.f (k : Nat) (l0 : List Int) : Option (Bool) := spec_ListOk.l0 k l0 0
theorem spec_ListOk.mono_l : ∀ k, (∀ y0 y1, LeO (spec_ListOk.l0 k y0 y1) (spec_ListOk.l0 (k + 1) y0 y1))
  | 0 => fun _ _ r h => by simp [spec_ListOk.l0] at h
  | k + 1 => by
    have ih0 := spec_ListOk.mono_l k
    · intro y0 y1
      unfold spec_ListOk.l0
      repeat' first
      | (with_reducible exact ih0 _ _)
      | (with_reducible exact LeO.refl _)
      | (with_reducible exact LeO.none _)
      | (with_reducible refine LeO.ite ?_ ?_)
      | (with_reducible refine LeO.bind ?_ (fun _ => ?_))
      | exact ih0 _ _
      | exact LeO.none _
      | refine LeO.ite ?_ ?_
      | refine LeO.bind ?_ (fun _ => ?_)
theorem spec_ListOk.mono : ∀ a0 k, LeO (spec_ListOk.f k a0) (spec_ListOk.f (k + 1) a0) := by
  intro a0 k
  have ih0 := spec_ListOk.mono_l k
  unfold spec_ListOk.f
  repeat' first
      | (with_reducible exact ih0 _ _)
      | (with_reducible exact LeO.refl _)
      | (with_reducible exact LeO.none _)
      | (with_reducible refine LeO.ite ?_ ?_)
      | (with_reducible refine LeO.bind ?_ (fun _ => ?_))
      | exact ih0 _ _
      | exact LeO.none _
      | refine LeO.ite ?_ ?_
      | refine LeO.bind ?_ (fun _ => ?_)
set_option maxHeartbeats 8000000 in
set_option maxRecDepth 100000 in
theorem spec_ListOk.calls (k : Nat) (A0 : Option Addr) (c0 : Nat) (l0 : List Int) (r : Bool) (w : World) (hr0 : Kd.C (Kd.int .i64) w A0 l0.length l0) (hc0 : l0.length ≤ c0) (h : spec_ListOk.f k l0 = some r) :
    Calls Try.prog 27 #[.slice A0 l0.length c0] w fun e w' => e = .returned (.bool r) ∧ Drawn0 w w' := by
  have HR0 := Aside0.mk hr0
  have HC0 := Aside0.mk hc0
  clear hr0 hc0
  have H : (spec_ListOk.l0 k l0 0) = some r := h
  clear h
  have H' := Aside0.mk H
  clear H
  go_enter Try.func27, Try.ntmps27
  go_wp2
  repeat (go_quiet (fail); try go_wp2)
  go_loopg [3] k (fun kq v3 w' => ∃ (x3_1 : Int), v3 = .int .i64 x3_1 ∧ Aside0 (spec_ListOk.l0 kq l0 x3_1 = some r) ∧ Aside0 (kq ≤ k) ∧ Drawn0 w w')
  case atStart => exact ⟨(0), (by first | rfl | (simp; done) | (simp [*]; done) | (simp only [my_ne_nil]; rfl)), H', ⟨Nat.le_refl _⟩, by repeat (first | exact Drawn0.refl _ | apply Drawn0.step)⟩
  case round =>
    clear H'
    obtain ⟨x3_1, rfl, HA, HK1, ⟨m1, rfl⟩⟩ := hrel
    cases gk with
    | zero => exact absurd HA.out (by simp [spec_ListOk.l0])
    | succ k1 =>
      have H := HA.out
      clear HA
      simp only [spec_ListOk.l0] at H
      by_cases c2 : x3_1 < (l0.length : Int)
      · rw [if_pos c2] at H
        have c2b0 : decide (x3_1 < (l0.length : Int)) = true := decide_eq_true c2
        clear c2
        by_cases c3 : 0 ≤ x3_1
        · rw [if_pos c3] at H
          have c3b0 : decide (0 ≤ x3_1) = true := decide_eq_true c3
          clear c3
          by_cases c4 : (rd l0 x3_1) < 0
          · rw [if_pos c4] at H
            have c4b0 : decide ((rd l0 x3_1) < 0) = true := decide_eq_true c4
            clear c4
            obtain rfl := Option.some.inj H
            have p103 : 0 ≤ (x3_1 : Int) := of_decide_eq_true (by first | (with_reducible assumption) | assumption)
            have q103 : x3_1 < (l0.length : Int) := of_decide_eq_true (by first | (with_reducible assumption) | assumption)
            obtain ⟨ad103, e103, hx103_0⟩ := Kd.at_int HR0.out x3_1 p103 q103
            cases e103
            replace p103 := eq_true p103
            replace q103 := eq_true q103
            go_wp2
            repeat (go_quiet (fail); try go_wp2)
            go_ret
            exact ⟨by first | rfl | (simp; done) | (simp [*]; done) | (simp only [my_ne_nil]; rfl), by repeat (first | exact Drawn0.refl _ | apply Drawn0.step)⟩
          · rw [if_neg c4] at H
            have c4b0 : decide ((rd l0 x3_1) < 0) = false := decide_eq_false c4
            clear c4
            by_cases c5 : x3_1 > 0
            · rw [if_pos c5] at H
              have c5b0 : decide (0 < x3_1) = true := decide_eq_true c5
              clear c5
              obtain ⟨ji6, hji6⟩ : ∃ j_ : Int, (wrap64 (x3_1 - 1)) = j_ := ⟨_, rfl⟩
              replace H : (if 0 ≤ (ji6) then (if (ji6) < (l0.length : Int) then (if (rd l0 (ji6)) ≥ (rd l0 x3_1) then (some false) else (spec_ListOk.l0 k1 l0 (wrap64 (x3_1 + 1)))) else (none)) else (none)) = some r := by first | (rw [hji6] at H; exact H) | (simp only [hji6] at H ⊢; exact H)
              have hji6w : (IntKind.i64.wrap (x3_1 - 1)) = ji6 := (i64_w _).trans hji6
              by_cases c7 : 0 ≤ (ji6)
              · rw [if_pos c7] at H
                have c7b0 : decide (0 ≤ (ji6)) = true := decide_eq_true c7
                clear c7
                by_cases c8 : (ji6) < (l0.length : Int)
                · rw [if_pos c8] at H
                  have c8b0 : decide ((ji6) < (l0.length : Int)) = true := decide_eq_true c8
                  clear c8
                  by_cases c9 : (rd l0 (ji6)) ≥ (rd l0 x3_1)
                  · rw [if_pos c9] at H
                    have c9b0 : decide ((rd l0 x3_1) ≤ (rd l0 (ji6))) = true := decide_eq_true c9
                    clear c9
                    obtain rfl := Option.some.inj H
                    have p103 : 0 ≤ (x3_1 : Int) := of_decide_eq_true (by first | (with_reducible assumption) | assumption)
                    have q103 : x3_1 < (l0.length : Int) := of_decide_eq_true (by first | (with_reducible assumption) | assumption)
                    obtain ⟨ad103, e103, hx103_0⟩ := Kd.at_int HR0.out x3_1 p103 q103
                    cases e103
                    replace p103 := eq_true p103
                    replace q103 := eq_true q103
                    have p104 : 0 ≤ ((ji6) : Int) := of_decide_eq_true (by first | (with_reducible assumption) | assumption)
                    have q104 : (ji6) < (l0.length : Int) := of_decide_eq_true (by first | (with_reducible assumption) | assumption)
                    obtain ⟨ad104, e104, hx104_0⟩ := Kd.at_int HR0.out (ji6) p104 q104
                    obtain rfl : ad103 = ad104 := (by injection e104)
                    replace p104 := eq_true p104
                    replace q104 := eq_true q104
                    have p105 : 0 ≤ (x3_1 : Int) := of_decide_eq_true (by first | (with_reducible assumption) | assumption)
                    have q105 : x3_1 < (l0.length : Int) := of_decide_eq_true (by first | (with_reducible assumption) | assumption)
                    obtain ⟨ad105, e105, hx105_0⟩ := Kd.at_int HR0.out x3_1 p105 q105
                    obtain rfl : ad103 = ad105 := (by injection e105)
                    replace p105 := eq_true p105
                    replace q105 := eq_true q105
                    go_wp2
                    repeat (go_quiet (fail); try go_wp2)
                    go_ret
                    exact ⟨by first | rfl | (simp; done) | (simp only [← hji6] <;> (first | rfl | simp)) | (simp [*]; done) | (simp only [my_ne_nil]; rfl), by repeat (first | exact Drawn0.refl _ | apply Drawn0.step)⟩
                  · rw [if_neg c9] at H
                    have c9b0 : decide ((rd l0 x3_1) ≤ (rd l0 (ji6))) = false := decide_eq_false c9
                    clear c9
                    have H' := Aside0.mk H
                    clear H
                    have p103 : 0 ≤ (x3_1 : Int) := of_decide_eq_true (by first | (with_reducible assumption) | assumption)
                    have q103 : x3_1 < (l0.length : Int) := of_decide_eq_true (by first | (with_reducible assumption) | assumption)
                    obtain ⟨ad103, e103, hx103_0⟩ := Kd.at_int HR0.out x3_1 p103 q103
                    cases e103
                    replace p103 := eq_true p103
                    replace q103 := eq_true q103
                    have p104 : 0 ≤ ((ji6) : Int) := of_decide_eq_true (by first | (with_reducible assumption) | assumption)
                    have q104 : (ji6) < (l0.length : Int) := of_decide_eq_true (by first | (with_reducible assumption) | assumption)
                    obtain ⟨ad104, e104, hx104_0⟩ := Kd.at_int HR0.out (ji6) p104 q104
                    obtain rfl : ad103 = ad104 := (by injection e104)
                    replace p104 := eq_true p104
                    replace q104 := eq_true q104
                    have p105 : 0 ≤ (x3_1 : Int) := of_decide_eq_true (by first | (with_reducible assumption) | assumption)
                    have q105 : x3_1 < (l0.length : Int) := of_decide_eq_true (by first | (with_reducible assumption) | assumption)
                    obtain ⟨ad105, e105, hx105_0⟩ := Kd.at_int HR0.out x3_1 p105 q105
                    obtain rfl : ad103 = ad105 := (by injection e105)
                    replace p105 := eq_true p105
                    replace q105 := eq_true q105
                    go_wp2
                    repeat (go_quiet (fail); try go_wp2)
                    go_roundg k1
                    case measure => have := HK1.out; omega
                    case rel => exact ⟨(wrap64 (x3_1 + 1)), (by first | rfl | (simp; done) | (simp [*]; done) | (simp only [my_ne_nil]; rfl)), H', ⟨by have := HK1.out; omega⟩, by repeat (first | exact Drawn0.refl _ | apply Drawn0.step)⟩
                · rw [if_neg c8] at H
                  exact absurd H (by simp)
              · rw [if_neg c7] at H
                exact absurd H (by simp)
            · rw [if_neg c5] at H
              have c5b0 : decide (0 < x3_1) = false := decide_eq_false c5
              clear c5
              have H' := Aside0.mk H
              clear H
              have p103 : 0 ≤ (x3_1 : Int) := of_decide_eq_true (by first | (with_reducible assumption) | assumption)
              have q103 : x3_1 < (l0.length : Int) := of_decide_eq_true (by first | (with_reducible assumption) | assumption)
              obtain ⟨ad103, e103, hx103_0⟩ := Kd.at_int HR0.out x3_1 p103 q103
              cases e103
              replace p103 := eq_true p103
              replace q103 := eq_true q103
              go_wp2
              repeat (go_quiet (fail); try go_wp2)
              go_roundg k1
              case measure => have := HK1.out; omega
              case rel => exact ⟨(wrap64 (x3_1 + 1)), (by first | rfl | (simp; done) | (simp [*]; done) | (simp only [my_ne_nil]; rfl)), H', ⟨by have := HK1.out; omega⟩, by repeat (first | exact Drawn0.refl _ | apply Drawn0.step)⟩
        · rw [if_neg c3] at H
          exact absurd H (by simp)
      · rw [if_neg c2] at H
        have c2b0 : decide (x3_1 < (l0.length : Int)) = false := decide_eq_false c2
        clear c2
        obtain rfl := Option.some.inj H
        go_wp2
        repeat (go_quiet (fail); try go_wp2)
        go_ret
        exact ⟨by first | rfl | (simp; done) | (simp [*]; done) | (simp only [my_ne_nil]; rfl), by repeat (first | exact Drawn0.refl _ | apply Drawn0.step)⟩

end Go.Proofs.Ytibkljplegpcdaa.QFnListEither
