-- Written by wip/tools/mk.py (this session's program, which runs the kit's print): functions, and proofs that the machine's calls do what they say.
import Derived.Test.YtibkljplegpcdaaQFnListBothx0
import Derived.Test.YtibkljplegpcdaaQFnListBothx1
namespace Go.Proofs.Ytibkljplegpcdaa.QFnListBoth
open Go.RowKit Go.Proofs.YtibkljplegpcdaaW.PrintWords Go.Proofs.YtibkljplegpcdaaW.PrintLast Go.Proofs.YtibkljplegpcdaaW.PrintMore
attribute [local go_sem] IntKind.wrap_u8 max2_int min2_int max_two min_two max_three min_three max_four min_four   -- for this text's walks alone
set_option linter.unusedVariables false
set_option linter.unusedSimpArgs false

/-! ### impl_merge_int: function 91 -/
def impl_merge_int.f (K : Bool → Bool → Bool) (l0 l1 : List Int) : List Int := mergeL K l0 l1
set_option maxHeartbeats 4000000 in
set_option maxRecDepth 100000 in
theorem impl_merge_int.calls (g : Nat) (fn : Func) (hf : Try.prog.funcs[g]? = some fn) (hname : (fn.name == "runtime.NumGoroutine") = false) (hbody : fn.body.isSome = true) (K : Bool → Bool → Bool) (hg : ∀ (x y : Bool) (W : World), Calls Try.prog g #[.bool x, .bool y] W fun e w' => e = .returned (.bool (K x y)) ∧ Drawn0 W w')
    (A0 : Option Addr) (c0 : Nat) (l0 : List Int) (A1 : Option Addr) (c1 : Nat) (l1 : List Int) (w : World) (hr0 : Kd.C (Kd.int .i64) w A0 l0.length l0) (hc0 : l0.length ≤ c0) (hr1 : Kd.C (Kd.int .i64) w A1 l1.length l1) (hc1 : l1.length ≤ c1) (hbd : l0.length + l1.length ≤ 1000000) :
    Calls Try.prog 91 #[.slice A0 l0.length c0, .slice A1 l1.length c1, .func (.func g) #[] #[]] w fun e w' => ∃ v0_ : Value, e = .returned (v0_) ∧ Kd.R (Kd.int .i64) 3 w' w.heap.size (fun _ => True) v0_ (impl_merge_int.f K l0 l1) ∧ Below w.heap.size w w' := by
  obtain ⟨r, hr⟩ : ∃ r, impl_merge_int.f K l0 l1 = r := ⟨_, rfl⟩
  rw [hr]
  have HR := Aside0.mk (hr.symm : r = mergeL K l0 l1)
  have HG := Aside0.mk hg
  have HF := Aside0.mk hf
  have HN := Aside0.mk hname
  have HY := Aside0.mk hbody
  have HR0 := Aside0.mk hr0
  have HC0 := Aside0.mk hc0
  have HR1 := Aside0.mk hr1
  have HC1 := Aside0.mk hc1
  have HBD := Aside0.mk hbd
  clear hr0 hc0 hr1 hc1 hr hg hf hname hbody hbd
  go_enter Try.func91, Try.ntmps91
  go_wp2
  go_loopg [0, 1, 7] (l0.length + l1.length) (fun n v0 v1 v7 wr => ∃ (la lb o : List Int) (na nb : Nat) (Aa Ab : Option Addr) (ca cb : Nat), v0 = .slice Aa na ca ∧ v1 = .slice Ab nb cb ∧ Aside0 (la.length = na) ∧ Aside0 (lb.length = nb) ∧ Aside0 (n = na + nb) ∧ Aside0 (na ≤ ca) ∧ Aside0 (nb ≤ cb) ∧ Aside0 (Kd.C (Kd.int .i64) w Aa la.length la) ∧ Aside0 (Kd.C (Kd.int .i64) w Ab lb.length lb) ∧ Aside0 (Kd.R (Kd.int .i64) 3 wr w.heap.size (fun _ => True) v7 o) ∧ Aside0 (Below w.heap.size w wr) ∧ Aside0 (r = o ++ mergeL K la lb) ∧ Aside0 (o.length + na + nb ≤ 1000000))
  case atStart => exact ⟨l0, l1, [], l0.length, l1.length, A0, A1, c0, c1, rfl, rfl, ⟨rfl⟩, ⟨rfl⟩, ⟨rfl⟩, HC0, HC1, HR0, HR1, ⟨Kd.R_nil _ _ _ _ _⟩, ⟨Below.refl _ _⟩, ⟨HR.out⟩, ⟨by have := HBD.out; simpa using this⟩⟩
  case round =>
    clear HR HR0 HC0 HR1 HC1 HBD
    obtain ⟨la, lb, o, na, nb, Aa, Ab, ca, cb, rfl, rfl, HLA, HLB, HN_, HCA, HCB, HA, HB_, HO, HB, HL, HBD⟩ := hrel
    obtain ⟨i0, hi0, _, hsz0, _⟩ := info_parts info3
    by_cases ha : 0 < na
    · by_cases hb : 0 < nb
      · have hla : 0 < la.length := by rw [HLA.out]; exact ha
        have hlb : 0 < lb.length := by rw [HLB.out]; exact hb
        have a1 : decide (0 < (na : Int)) = true := decide_eq_true (by omega)
        have a2 : decide (0 < na) = true := decide_eq_true (by omega)
        have a3 : ((na : Int) == 0) = false := by exact beq_eq_false_iff_ne.mpr (by omega)
        have a4 : (na == 0) = false := by exact beq_eq_false_iff_ne.mpr (by omega)
        have b1 : decide (0 < (nb : Int)) = true := decide_eq_true (by omega)
        have b2 : decide (0 < nb) = true := decide_eq_true (by omega)
        have b3 : ((nb : Int) == 0) = false := by exact beq_eq_false_iff_ne.mpr (by omega)
        have b4 : (nb == 0) = false := by exact beq_eq_false_iff_ne.mpr (by omega)
        have HPA := Aside0.mk (show 0 < na from by omega)
        have HPB := Aside0.mk (show 0 < nb from by omega)
        obtain ⟨ada, e, hxa⟩ := Kd.at_int HA.out 0 (by omega) (by rw [HLA.out]; omega)
        cases e
        replace hxa := (HB.out.cell (World.block_lt_of_cell? w _ hxa)).trans hxa
        obtain ⟨xa, hxae⟩ : ∃ x, rd la 0 = x := ⟨_, rfl⟩
        rw [hxae] at hxa
        have qa : ((0 : Int) < (na : Int)) = True := eq_true (by omega)
        have qa2 : (0 < na) = True := eq_true (by omega)
        have qa3 : (na = 0) = False := eq_false (by omega)
        have hya : wr.cell? (ada.add 0) = some (.int .i64 xa) := hxa
        have hza : wr.cell? ada = some (.int .i64 xa) := by have h := hxa; rwa [show ada.add (Int.toNat 0) = ada from by simp [Addr.add]] at h
        obtain ⟨adb, e, hxb⟩ := Kd.at_int HB_.out 0 (by omega) (by rw [HLB.out]; omega)
        cases e
        replace hxb := (HB.out.cell (World.block_lt_of_cell? w _ hxb)).trans hxb
        obtain ⟨xb, hxbe⟩ : ∃ x, rd lb 0 = x := ⟨_, rfl⟩
        rw [hxbe] at hxb
        have qb : ((0 : Int) < (nb : Int)) = True := eq_true (by omega)
        have qb2 : (0 < nb) = True := eq_true (by omega)
        have qb3 : (nb = 0) = False := eq_false (by omega)
        have hyb : wr.cell? (adb.add 0) = some (.int .i64 xb) := hxb
        have hzb : wr.cell? adb = some (.int .i64 xb) := by have h := hxb; rwa [show adb.add (Int.toNat 0) = adb from by simp [Addr.add]] at h
        have hcuta := cut_from (P := Try.prog) 22 3 .i64 Try.underlying22 hi0 1 hsz0 (some ada) na ca 1 (by omega) (by omega)
        have hdra := Aside0.mk (Kd.C_drop (k := Kd.int .i64) (m := 1) (c := ca) HA.out (by rw [HLA.out]; omega) (by rw [HLA.out]; have := HCA.out; omega))
        obtain ⟨Aa', hAa'⟩ : ∃ x : Option Addr, (if ca = (1 : Int).toNat then some ada else (some ada : Option Addr).map (·.add ((1 : Int).toNat * 1))) = x := ⟨_, rfl⟩
        obtain ⟨na', hna'⟩ : ∃ x : Nat, na - (1 : Int).toNat = x := ⟨_, rfl⟩
        obtain ⟨ca', hca'⟩ : ∃ x : Nat, ca - (1 : Int).toNat = x := ⟨_, rfl⟩
        rw [hAa', hna', hca'] at hcuta
        have HAa' := Aside0.mk hAa'
        have Hna' := Aside0.mk hna'
        have Hca' := Aside0.mk hca'
        clear hAa' hna' hca'
        have hcutb := cut_from (P := Try.prog) 22 3 .i64 Try.underlying22 hi0 1 hsz0 (some adb) nb cb 1 (by omega) (by omega)
        have hdrb := Aside0.mk (Kd.C_drop (k := Kd.int .i64) (m := 1) (c := cb) HB_.out (by rw [HLB.out]; omega) (by rw [HLB.out]; have := HCB.out; omega))
        obtain ⟨Ab', hAb'⟩ : ∃ x : Option Addr, (if cb = (1 : Int).toNat then some adb else (some adb : Option Addr).map (·.add ((1 : Int).toNat * 1))) = x := ⟨_, rfl⟩
        obtain ⟨nb', hnb'⟩ : ∃ x : Nat, nb - (1 : Int).toNat = x := ⟨_, rfl⟩
        obtain ⟨cb', hcb'⟩ : ∃ x : Nat, cb - (1 : Int).toNat = x := ⟨_, rfl⟩
        rw [hAb', hnb', hcb'] at hcutb
        have HAb' := Aside0.mk hAb'
        have Hnb' := Aside0.mk hnb'
        have Hcb' := Aside0.mk hcb'
        clear hAb' hnb' hcb'
        rcases Int.lt_trichotomy xa xb with hx | hx | hx
        · have E := Aside0.mk (mergeL_lt K hla hlb (by rw [hxae, hxbe]; exact hx))
          rw [hxae] at E
          have c1 : decide (xa ≤ xb) = true := decide_eq_true (by omega)
          have c2 : decide (xb ≤ xa) = false := decide_eq_false (by omega)
          clear ha hb hla hlb hxae hxbe hx
          cases hk : K true false
          · have HK := Aside0.mk hk
            clear hk
            go_wp2_with fail
            repeat (go_quiet (fail); try go_wp2_with (first | (refine goesV_ (some 68) rfl rfl rfl rfl HF.out HN.out HY.out #[.bool true, .bool false] (by simp only [List.map_toArray, List.map_cons, List.map_nil, Array.append_empty]; rfl) ?_; refine (HG.out true false _).mono ?_; rintro e w' ⟨rfl, ⟨nd, rfl⟩⟩; rw [HK.out]; refine ⟨_, rfl, ?_⟩)))
            go_roundg (na' + nb)
            case measure => have := Hna'.out; have := Hca'.out; have := HN_.out; have := HBD.out; have := HCA.out; have := HCB.out; have := HPA.out; have := HPB.out; have e1 : (1 : Int).toNat = 1 := rfl; omega
            case rel => exact ⟨la.drop 1, lb, o, na', nb, Aa', some adb, ca', cb, rfl, rfl, ⟨by rw [List.length_drop, HLA.out]; exact Hna'.out⟩, HLB, ⟨rfl⟩, ⟨by have := Hna'.out; have := Hca'.out; have := HN_.out; have := HBD.out; have := HCA.out; have := HCB.out; have := HPA.out; have := HPB.out; have e1 : (1 : Int).toNat = 1 := rfl; omega⟩, HCB, ⟨by rw [← HAa'.out]; exact hdra.out⟩, ⟨HB_.out⟩, ⟨(by (with_reducible repeat (first | apply Kd.R_alloc | apply Kd.R_drewN | apply Kd.R_drew)); exact HO.out)⟩, ⟨(by repeat (first | (with_reducible first | exact HB.out | apply below_alloc | apply pw_below_drewN | apply below_drew1) | exact HB.out))⟩, ⟨by rw [HL.out, E.out, HK.out]; simp⟩, ⟨by have := Hna'.out; have := Hca'.out; have := HN_.out; have := HBD.out; have := HCA.out; have := HCB.out; have := HPA.out; have := HPB.out; have e1 : (1 : Int).toNat = 1 := rfl; omega⟩⟩
          · have HK := Aside0.mk hk
            clear hk
            go_wp2_with fail
            repeat (go_quiet (fail); try go_wp2_with (first | (refine goesV_ (some 68) rfl rfl rfl rfl HF.out HN.out HY.out #[.bool true, .bool false] (by simp only [List.map_toArray, List.map_cons, List.map_nil, Array.append_empty]; rfl) ?_; refine (HG.out true false _).mono ?_; rintro e w' ⟨rfl, ⟨nd, rfl⟩⟩; rw [HK.out]; refine ⟨_, rfl, ?_⟩) | ((with_reducible refine gate_builtin (b := .append) (xs := #[.tmp 69, .tmp 71]) rfl ?_); at_builtin; refine Kd.R_append (Kd.int .i64) (w0 := w) w.heap.size rfl (.tmp 69) (.tmp 71) 22 3 (.int .i64 0) 8 rfl Try.underlying22 info3 rfl (by decide) (by omega) u7 o xa [.int .i64 xa] (fun _ => True) (fun _ => False) rfl rfl ?aP (fun _ hk => hk.elim) ?aF ?aO ?aB ?aS ?aL ?_; (case aP => exact rfl); (case aB => exact (by repeat (first | (with_reducible first | exact HB.out | apply below_alloc | apply pw_below_drewN | apply below_drew1) | exact HB.out))); (case aF => exact (fun _ _ => trivial)); (case aO => exact (by (with_reducible repeat (first | apply Kd.R_alloc | apply Kd.R_drewN | apply Kd.R_drew)); exact HO.out)); (case aS => exact (below_size (by repeat (first | (with_reducible first | exact HB.out | apply below_alloc | apply pw_below_drewN | apply below_drew1) | exact HB.out)))); (case aL => have := HBD.out; omega); intro vn wn ho hb hg hat; have n0_ := Aside0.mk hb; have n1_ := Aside0.mk ho; clear HB HO; have HB := n0_; have HO := n1_; clear n0_ n1_ ho hb hg hat)))
            go_roundg (na' + nb)
            case measure => have := Hna'.out; have := Hca'.out; have := HN_.out; have := HBD.out; have := HCA.out; have := HCB.out; have := HPA.out; have := HPB.out; have e1 : (1 : Int).toNat = 1 := rfl; omega
            case rel => exact ⟨la.drop 1, lb, o ++ [xa], na', nb, Aa', some adb, ca', cb, rfl, rfl, ⟨by rw [List.length_drop, HLA.out]; exact Hna'.out⟩, HLB, ⟨rfl⟩, ⟨by have := Hna'.out; have := Hca'.out; have := HN_.out; have := HBD.out; have := HCA.out; have := HCB.out; have := HPA.out; have := HPB.out; have e1 : (1 : Int).toNat = 1 := rfl; omega⟩, HCB, ⟨by rw [← HAa'.out]; exact hdra.out⟩, ⟨HB_.out⟩, ⟨(by (with_reducible repeat (first | apply Kd.R_alloc | apply Kd.R_drewN | apply Kd.R_drew)); exact HO.out)⟩, ⟨(by repeat (first | (with_reducible first | exact HB.out | apply below_alloc | apply pw_below_drewN | apply below_drew1) | exact HB.out))⟩, ⟨by rw [HL.out, E.out, HK.out]; simp⟩, ⟨by simp only [List.length_append, List.length_cons, List.length_nil]; have := Hna'.out; have := Hca'.out; have := HN_.out; have := HBD.out; have := HCA.out; have := HCB.out; have := HPA.out; have := HPB.out; have e1 : (1 : Int).toNat = 1 := rfl; omega⟩⟩
        · have E := Aside0.mk (mergeL_eq K hla hlb (by rw [hxae, hxbe]; exact hx))
          rw [hxbe] at E
          have c1 : decide (xa ≤ xb) = true := decide_eq_true (by omega)
          have c2 : decide (xb ≤ xa) = true := decide_eq_true (by omega)
          clear ha hb hla hlb hxae hxbe hx
          cases hk : K true true
          · have HK := Aside0.mk hk
            clear hk
            go_wp2_with fail
            repeat (go_quiet (fail); try go_wp2_with (first | (refine goesV_ (some 68) rfl rfl rfl rfl HF.out HN.out HY.out #[.bool true, .bool true] (by simp only [List.map_toArray, List.map_cons, List.map_nil, Array.append_empty]; rfl) ?_; refine (HG.out true true _).mono ?_; rintro e w' ⟨rfl, ⟨nd, rfl⟩⟩; rw [HK.out]; refine ⟨_, rfl, ?_⟩)))
            go_roundg (na' + nb')
            case measure => have := Hna'.out; have := Hca'.out; have := Hnb'.out; have := Hcb'.out; have := HN_.out; have := HBD.out; have := HCA.out; have := HCB.out; have := HPA.out; have := HPB.out; have e1 : (1 : Int).toNat = 1 := rfl; omega
            case rel => exact ⟨la.drop 1, lb.drop 1, o, na', nb', Aa', Ab', ca', cb', rfl, rfl, ⟨by rw [List.length_drop, HLA.out]; exact Hna'.out⟩, ⟨by rw [List.length_drop, HLB.out]; exact Hnb'.out⟩, ⟨rfl⟩, ⟨by have := Hna'.out; have := Hca'.out; have := Hnb'.out; have := Hcb'.out; have := HN_.out; have := HBD.out; have := HCA.out; have := HCB.out; have := HPA.out; have := HPB.out; have e1 : (1 : Int).toNat = 1 := rfl; omega⟩, ⟨by have := Hna'.out; have := Hca'.out; have := Hnb'.out; have := Hcb'.out; have := HN_.out; have := HBD.out; have := HCA.out; have := HCB.out; have := HPA.out; have := HPB.out; have e1 : (1 : Int).toNat = 1 := rfl; omega⟩, ⟨by rw [← HAa'.out]; exact hdra.out⟩, ⟨by rw [← HAb'.out]; exact hdrb.out⟩, ⟨(by (with_reducible repeat (first | apply Kd.R_alloc | apply Kd.R_drewN | apply Kd.R_drew)); exact HO.out)⟩, ⟨(by repeat (first | (with_reducible first | exact HB.out | apply below_alloc | apply pw_below_drewN | apply below_drew1) | exact HB.out))⟩, ⟨by rw [HL.out, E.out, HK.out]; simp⟩, ⟨by have := Hna'.out; have := Hca'.out; have := Hnb'.out; have := Hcb'.out; have := HN_.out; have := HBD.out; have := HCA.out; have := HCB.out; have := HPA.out; have := HPB.out; have e1 : (1 : Int).toNat = 1 := rfl; omega⟩⟩
          · have HK := Aside0.mk hk
            clear hk
            go_wp2_with fail
            repeat (go_quiet (fail); try go_wp2_with (first | (refine goesV_ (some 68) rfl rfl rfl rfl HF.out HN.out HY.out #[.bool true, .bool true] (by simp only [List.map_toArray, List.map_cons, List.map_nil, Array.append_empty]; rfl) ?_; refine (HG.out true true _).mono ?_; rintro e w' ⟨rfl, ⟨nd, rfl⟩⟩; rw [HK.out]; refine ⟨_, rfl, ?_⟩) | ((with_reducible refine gate_builtin (b := .append) (xs := #[.tmp 69, .tmp 71]) rfl ?_); at_builtin; refine Kd.R_append (Kd.int .i64) (w0 := w) w.heap.size rfl (.tmp 69) (.tmp 71) 22 3 (.int .i64 0) 8 rfl Try.underlying22 info3 rfl (by decide) (by omega) u7 o xb [.int .i64 xb] (fun _ => True) (fun _ => False) rfl rfl ?aP (fun _ hk => hk.elim) ?aF ?aO ?aB ?aS ?aL ?_; (case aP => exact rfl); (case aB => exact (by repeat (first | (with_reducible first | exact HB.out | apply below_alloc | apply pw_below_drewN | apply below_drew1) | exact HB.out))); (case aF => exact (fun _ _ => trivial)); (case aO => exact (by (with_reducible repeat (first | apply Kd.R_alloc | apply Kd.R_drewN | apply Kd.R_drew)); exact HO.out)); (case aS => exact (below_size (by repeat (first | (with_reducible first | exact HB.out | apply below_alloc | apply pw_below_drewN | apply below_drew1) | exact HB.out)))); (case aL => have := HBD.out; omega); intro vn wn ho hb hg hat; have n0_ := Aside0.mk hb; have n1_ := Aside0.mk ho; clear HB HO; have HB := n0_; have HO := n1_; clear n0_ n1_ ho hb hg hat)))
            go_roundg (na' + nb')
            case measure => have := Hna'.out; have := Hca'.out; have := Hnb'.out; have := Hcb'.out; have := HN_.out; have := HBD.out; have := HCA.out; have := HCB.out; have := HPA.out; have := HPB.out; have e1 : (1 : Int).toNat = 1 := rfl; omega
            case rel => exact ⟨la.drop 1, lb.drop 1, o ++ [xb], na', nb', Aa', Ab', ca', cb', rfl, rfl, ⟨by rw [List.length_drop, HLA.out]; exact Hna'.out⟩, ⟨by rw [List.length_drop, HLB.out]; exact Hnb'.out⟩, ⟨rfl⟩, ⟨by have := Hna'.out; have := Hca'.out; have := Hnb'.out; have := Hcb'.out; have := HN_.out; have := HBD.out; have := HCA.out; have := HCB.out; have := HPA.out; have := HPB.out; have e1 : (1 : Int).toNat = 1 := rfl; omega⟩, ⟨by have := Hna'.out; have := Hca'.out; have := Hnb'.out; have := Hcb'.out; have := HN_.out; have := HBD.out; have := HCA.out; have := HCB.out; have := HPA.out; have := HPB.out; have e1 : (1 : Int).toNat = 1 := rfl; omega⟩, ⟨by rw [← HAa'.out]; exact hdra.out⟩, ⟨by rw [← HAb'.out]; exact hdrb.out⟩, ⟨(by (with_reducible repeat (first | apply Kd.R_alloc | apply Kd.R_drewN | apply Kd.R_drew)); exact HO.out)⟩, ⟨(by repeat (first | (with_reducible first | exact HB.out | apply below_alloc | apply pw_below_drewN | apply below_drew1) | exact HB.out))⟩, ⟨by rw [HL.out, E.out, HK.out]; simp⟩, ⟨by simp only [List.length_append, List.length_cons, List.length_nil]; have := Hna'.out; have := Hca'.out; have := Hnb'.out; have := Hcb'.out; have := HN_.out; have := HBD.out; have := HCA.out; have := HCB.out; have := HPA.out; have := HPB.out; have e1 : (1 : Int).toNat = 1 := rfl; omega⟩⟩
        · have E := Aside0.mk (mergeL_gt K hla hlb (by rw [hxae, hxbe]; exact hx))
          rw [hxbe] at E
          have c1 : decide (xa ≤ xb) = false := decide_eq_false (by omega)
          have c2 : decide (xb ≤ xa) = true := decide_eq_true (by omega)
          clear ha hb hla hlb hxae hxbe hx
          cases hk : K false true
          · have HK := Aside0.mk hk
            clear hk
            go_wp2_with fail
            repeat (go_quiet (fail); try go_wp2_with (first | (refine goesV_ (some 68) rfl rfl rfl rfl HF.out HN.out HY.out #[.bool false, .bool true] (by simp only [List.map_toArray, List.map_cons, List.map_nil, Array.append_empty]; rfl) ?_; refine (HG.out false true _).mono ?_; rintro e w' ⟨rfl, ⟨nd, rfl⟩⟩; rw [HK.out]; refine ⟨_, rfl, ?_⟩)))
            go_roundg (na + nb')
            case measure => have := Hnb'.out; have := Hcb'.out; have := HN_.out; have := HBD.out; have := HCA.out; have := HCB.out; have := HPA.out; have := HPB.out; have e1 : (1 : Int).toNat = 1 := rfl; omega
            case rel => exact ⟨la, lb.drop 1, o, na, nb', some ada, Ab', ca, cb', rfl, rfl, HLA, ⟨by rw [List.length_drop, HLB.out]; exact Hnb'.out⟩, ⟨rfl⟩, HCA, ⟨by have := Hnb'.out; have := Hcb'.out; have := HN_.out; have := HBD.out; have := HCA.out; have := HCB.out; have := HPA.out; have := HPB.out; have e1 : (1 : Int).toNat = 1 := rfl; omega⟩, ⟨HA.out⟩, ⟨by rw [← HAb'.out]; exact hdrb.out⟩, ⟨(by (with_reducible repeat (first | apply Kd.R_alloc | apply Kd.R_drewN | apply Kd.R_drew)); exact HO.out)⟩, ⟨(by repeat (first | (with_reducible first | exact HB.out | apply below_alloc | apply pw_below_drewN | apply below_drew1) | exact HB.out))⟩, ⟨by rw [HL.out, E.out, HK.out]; simp⟩, ⟨by have := Hnb'.out; have := Hcb'.out; have := HN_.out; have := HBD.out; have := HCA.out; have := HCB.out; have := HPA.out; have := HPB.out; have e1 : (1 : Int).toNat = 1 := rfl; omega⟩⟩
          · have HK := Aside0.mk hk
            clear hk
            go_wp2_with fail
            repeat (go_quiet (fail); try go_wp2_with (first | (refine goesV_ (some 68) rfl rfl rfl rfl HF.out HN.out HY.out #[.bool false, .bool true] (by simp only [List.map_toArray, List.map_cons, List.map_nil, Array.append_empty]; rfl) ?_; refine (HG.out false true _).mono ?_; rintro e w' ⟨rfl, ⟨nd, rfl⟩⟩; rw [HK.out]; refine ⟨_, rfl, ?_⟩) | ((with_reducible refine gate_builtin (b := .append) (xs := #[.tmp 69, .tmp 71]) rfl ?_); at_builtin; refine Kd.R_append (Kd.int .i64) (w0 := w) w.heap.size rfl (.tmp 69) (.tmp 71) 22 3 (.int .i64 0) 8 rfl Try.underlying22 info3 rfl (by decide) (by omega) u7 o xb [.int .i64 xb] (fun _ => True) (fun _ => False) rfl rfl ?aP (fun _ hk => hk.elim) ?aF ?aO ?aB ?aS ?aL ?_; (case aP => exact rfl); (case aB => exact (by repeat (first | (with_reducible first | exact HB.out | apply below_alloc | apply pw_below_drewN | apply below_drew1) | exact HB.out))); (case aF => exact (fun _ _ => trivial)); (case aO => exact (by (with_reducible repeat (first | apply Kd.R_alloc | apply Kd.R_drewN | apply Kd.R_drew)); exact HO.out)); (case aS => exact (below_size (by repeat (first | (with_reducible first | exact HB.out | apply below_alloc | apply pw_below_drewN | apply below_drew1) | exact HB.out)))); (case aL => have := HBD.out; omega); intro vn wn ho hb hg hat; have n0_ := Aside0.mk hb; have n1_ := Aside0.mk ho; clear HB HO; have HB := n0_; have HO := n1_; clear n0_ n1_ ho hb hg hat)))
            go_roundg (na + nb')
            case measure => have := Hnb'.out; have := Hcb'.out; have := HN_.out; have := HBD.out; have := HCA.out; have := HCB.out; have := HPA.out; have := HPB.out; have e1 : (1 : Int).toNat = 1 := rfl; omega
            case rel => exact ⟨la, lb.drop 1, o ++ [xb], na, nb', some ada, Ab', ca, cb', rfl, rfl, HLA, ⟨by rw [List.length_drop, HLB.out]; exact Hnb'.out⟩, ⟨rfl⟩, HCA, ⟨by have := Hnb'.out; have := Hcb'.out; have := HN_.out; have := HBD.out; have := HCA.out; have := HCB.out; have := HPA.out; have := HPB.out; have e1 : (1 : Int).toNat = 1 := rfl; omega⟩, ⟨HA.out⟩, ⟨by rw [← HAb'.out]; exact hdrb.out⟩, ⟨(by (with_reducible repeat (first | apply Kd.R_alloc | apply Kd.R_drewN | apply Kd.R_drew)); exact HO.out)⟩, ⟨(by repeat (first | (with_reducible first | exact HB.out | apply below_alloc | apply pw_below_drewN | apply below_drew1) | exact HB.out))⟩, ⟨by rw [HL.out, E.out, HK.out]; simp⟩, ⟨by simp only [List.length_append, List.length_cons, List.length_nil]; have := Hnb'.out; have := Hcb'.out; have := HN_.out; have := HBD.out; have := HCA.out; have := HCB.out; have := HPA.out; have := HPB.out; have e1 : (1 : Int).toNat = 1 := rfl; omega⟩⟩
      · have hla : 0 < la.length := by rw [HLA.out]; exact ha
        have hb0 : nb = 0 := by omega
        have hlb : lb.length = 0 := by rw [HLB.out]; exact hb0
        have a1 : decide (0 < (na : Int)) = true := decide_eq_true (by omega)
        have a2 : decide (0 < na) = true := decide_eq_true (by omega)
        have a3 : ((na : Int) == 0) = false := by exact beq_eq_false_iff_ne.mpr (by omega)
        have a4 : (na == 0) = false := by exact beq_eq_false_iff_ne.mpr (by omega)
        have b1 : decide (0 < (nb : Int)) = false := decide_eq_false (by omega)
        have b2 : decide (0 < nb) = false := decide_eq_false (by omega)
        have b3 : ((nb : Int) == 0) = true := by exact beq_iff_eq.mpr (by omega)
        have b4 : (nb == 0) = true := by exact beq_iff_eq.mpr (by omega)
        have HPA := Aside0.mk (show 0 < na from by omega)
        have HPB := Aside0.mk (show nb = 0 from by omega)
        obtain ⟨ada, e, hxa⟩ := Kd.at_int HA.out 0 (by omega) (by rw [HLA.out]; omega)
        cases e
        replace hxa := (HB.out.cell (World.block_lt_of_cell? w _ hxa)).trans hxa
        obtain ⟨xa, hxae⟩ : ∃ x, rd la 0 = x := ⟨_, rfl⟩
        rw [hxae] at hxa
        have qa : ((0 : Int) < (na : Int)) = True := eq_true (by omega)
        have qa2 : (0 < na) = True := eq_true (by omega)
        have qa3 : (na = 0) = False := eq_false (by omega)
        have hya : wr.cell? (ada.add 0) = some (.int .i64 xa) := hxa
        have hza : wr.cell? ada = some (.int .i64 xa) := by have h := hxa; rwa [show ada.add (Int.toNat 0) = ada from by simp [Addr.add]] at h
        have hcuta := cut_from (P := Try.prog) 22 3 .i64 Try.underlying22 hi0 1 hsz0 (some ada) na ca 1 (by omega) (by omega)
        have hdra := Aside0.mk (Kd.C_drop (k := Kd.int .i64) (m := 1) (c := ca) HA.out (by rw [HLA.out]; omega) (by rw [HLA.out]; have := HCA.out; omega))
        obtain ⟨Aa', hAa'⟩ : ∃ x : Option Addr, (if ca = (1 : Int).toNat then some ada else (some ada : Option Addr).map (·.add ((1 : Int).toNat * 1))) = x := ⟨_, rfl⟩
        obtain ⟨na', hna'⟩ : ∃ x : Nat, na - (1 : Int).toNat = x := ⟨_, rfl⟩
        obtain ⟨ca', hca'⟩ : ∃ x : Nat, ca - (1 : Int).toNat = x := ⟨_, rfl⟩
        rw [hAa', hna', hca'] at hcuta
        have HAa' := Aside0.mk hAa'
        have Hna' := Aside0.mk hna'
        have Hca' := Aside0.mk hca'
        clear hAa' hna' hca'
        have E := Aside0.mk (mergeL_a K hla hlb)
        rw [hxae] at E
        clear ha hb hb0 hla hlb hxae
        cases hk : K true false
        · have HK := Aside0.mk hk
          clear hk
          go_wp2_with fail
          repeat (go_quiet (fail); try go_wp2_with (first | (refine goesV_ (some 68) rfl rfl rfl rfl HF.out HN.out HY.out #[.bool true, .bool false] (by simp only [List.map_toArray, List.map_cons, List.map_nil, Array.append_empty]; rfl) ?_; refine (HG.out true false _).mono ?_; rintro e w' ⟨rfl, ⟨nd, rfl⟩⟩; rw [HK.out]; refine ⟨_, rfl, ?_⟩)))
          go_roundg (na' + nb)
          case measure => have := Hna'.out; have := Hca'.out; have := HN_.out; have := HBD.out; have := HCA.out; have := HCB.out; have := HPA.out; have := HPB.out; have e1 : (1 : Int).toNat = 1 := rfl; omega
          case rel => exact ⟨la.drop 1, lb, o, na', nb, Aa', Ab, ca', cb, rfl, rfl, ⟨by rw [List.length_drop, HLA.out]; exact Hna'.out⟩, HLB, ⟨rfl⟩, ⟨by have := Hna'.out; have := Hca'.out; have := HN_.out; have := HBD.out; have := HCA.out; have := HCB.out; have := HPA.out; have := HPB.out; have e1 : (1 : Int).toNat = 1 := rfl; omega⟩, HCB, ⟨by rw [← HAa'.out]; exact hdra.out⟩, ⟨HB_.out⟩, ⟨(by (with_reducible repeat (first | apply Kd.R_alloc | apply Kd.R_drewN | apply Kd.R_drew)); exact HO.out)⟩, ⟨(by repeat (first | (with_reducible first | exact HB.out | apply below_alloc | apply pw_below_drewN | apply below_drew1) | exact HB.out))⟩, ⟨by rw [HL.out, E.out, HK.out]; simp⟩, ⟨by have := Hna'.out; have := Hca'.out; have := HN_.out; have := HBD.out; have := HCA.out; have := HCB.out; have := HPA.out; have := HPB.out; have e1 : (1 : Int).toNat = 1 := rfl; omega⟩⟩
        · have HK := Aside0.mk hk
          clear hk
          go_wp2_with fail
          repeat (go_quiet (fail); try go_wp2_with (first | (refine goesV_ (some 68) rfl rfl rfl rfl HF.out HN.out HY.out #[.bool true, .bool false] (by simp only [List.map_toArray, List.map_cons, List.map_nil, Array.append_empty]; rfl) ?_; refine (HG.out true false _).mono ?_; rintro e w' ⟨rfl, ⟨nd, rfl⟩⟩; rw [HK.out]; refine ⟨_, rfl, ?_⟩) | ((with_reducible refine gate_builtin (b := .append) (xs := #[.tmp 69, .tmp 71]) rfl ?_); at_builtin; refine Kd.R_append (Kd.int .i64) (w0 := w) w.heap.size rfl (.tmp 69) (.tmp 71) 22 3 (.int .i64 0) 8 rfl Try.underlying22 info3 rfl (by decide) (by omega) u7 o xa [.int .i64 xa] (fun _ => True) (fun _ => False) rfl rfl ?aP (fun _ hk => hk.elim) ?aF ?aO ?aB ?aS ?aL ?_; (case aP => exact rfl); (case aB => exact (by repeat (first | (with_reducible first | exact HB.out | apply below_alloc | apply pw_below_drewN | apply below_drew1) | exact HB.out))); (case aF => exact (fun _ _ => trivial)); (case aO => exact (by (with_reducible repeat (first | apply Kd.R_alloc | apply Kd.R_drewN | apply Kd.R_drew)); exact HO.out)); (case aS => exact (below_size (by repeat (first | (with_reducible first | exact HB.out | apply below_alloc | apply pw_below_drewN | apply below_drew1) | exact HB.out)))); (case aL => have := HBD.out; omega); intro vn wn ho hb hg hat; have n0_ := Aside0.mk hb; have n1_ := Aside0.mk ho; clear HB HO; have HB := n0_; have HO := n1_; clear n0_ n1_ ho hb hg hat)))
          go_roundg (na' + nb)
          case measure => have := Hna'.out; have := Hca'.out; have := HN_.out; have := HBD.out; have := HCA.out; have := HCB.out; have := HPA.out; have := HPB.out; have e1 : (1 : Int).toNat = 1 := rfl; omega
          case rel => exact ⟨la.drop 1, lb, o ++ [xa], na', nb, Aa', Ab, ca', cb, rfl, rfl, ⟨by rw [List.length_drop, HLA.out]; exact Hna'.out⟩, HLB, ⟨rfl⟩, ⟨by have := Hna'.out; have := Hca'.out; have := HN_.out; have := HBD.out; have := HCA.out; have := HCB.out; have := HPA.out; have := HPB.out; have e1 : (1 : Int).toNat = 1 := rfl; omega⟩, HCB, ⟨by rw [← HAa'.out]; exact hdra.out⟩, ⟨HB_.out⟩, ⟨(by (with_reducible repeat (first | apply Kd.R_alloc | apply Kd.R_drewN | apply Kd.R_drew)); exact HO.out)⟩, ⟨(by repeat (first | (with_reducible first | exact HB.out | apply below_alloc | apply pw_below_drewN | apply below_drew1) | exact HB.out))⟩, ⟨by rw [HL.out, E.out, HK.out]; simp⟩, ⟨by simp only [List.length_append, List.length_cons, List.length_nil]; have := Hna'.out; have := Hca'.out; have := HN_.out; have := HBD.out; have := HCA.out; have := HCB.out; have := HPA.out; have := HPB.out; have e1 : (1 : Int).toNat = 1 := rfl; omega⟩⟩
    · by_cases hb : 0 < nb
      · have ha0 : na = 0 := by omega
        have hla : la.length = 0 := by rw [HLA.out]; exact ha0
        have hlb : 0 < lb.length := by rw [HLB.out]; exact hb
        have a1 : decide (0 < (na : Int)) = false := decide_eq_false (by omega)
        have a2 : decide (0 < na) = false := decide_eq_false (by omega)
        have a3 : ((na : Int) == 0) = true := by exact beq_iff_eq.mpr (by omega)
        have a4 : (na == 0) = true := by exact beq_iff_eq.mpr (by omega)
        have b1 : decide (0 < (nb : Int)) = true := decide_eq_true (by omega)
        have b2 : decide (0 < nb) = true := decide_eq_true (by omega)
        have b3 : ((nb : Int) == 0) = false := by exact beq_eq_false_iff_ne.mpr (by omega)
        have b4 : (nb == 0) = false := by exact beq_eq_false_iff_ne.mpr (by omega)
        have HPA := Aside0.mk (show na = 0 from by omega)
        have HPB := Aside0.mk (show 0 < nb from by omega)
        obtain ⟨adb, e, hxb⟩ := Kd.at_int HB_.out 0 (by omega) (by rw [HLB.out]; omega)
        cases e
        replace hxb := (HB.out.cell (World.block_lt_of_cell? w _ hxb)).trans hxb
        obtain ⟨xb, hxbe⟩ : ∃ x, rd lb 0 = x := ⟨_, rfl⟩
        rw [hxbe] at hxb
        have qb : ((0 : Int) < (nb : Int)) = True := eq_true (by omega)
        have qb2 : (0 < nb) = True := eq_true (by omega)
        have qb3 : (nb = 0) = False := eq_false (by omega)
        have hyb : wr.cell? (adb.add 0) = some (.int .i64 xb) := hxb
        have hzb : wr.cell? adb = some (.int .i64 xb) := by have h := hxb; rwa [show adb.add (Int.toNat 0) = adb from by simp [Addr.add]] at h
        have hcutb := cut_from (P := Try.prog) 22 3 .i64 Try.underlying22 hi0 1 hsz0 (some adb) nb cb 1 (by omega) (by omega)
        have hdrb := Aside0.mk (Kd.C_drop (k := Kd.int .i64) (m := 1) (c := cb) HB_.out (by rw [HLB.out]; omega) (by rw [HLB.out]; have := HCB.out; omega))
        obtain ⟨Ab', hAb'⟩ : ∃ x : Option Addr, (if cb = (1 : Int).toNat then some adb else (some adb : Option Addr).map (·.add ((1 : Int).toNat * 1))) = x := ⟨_, rfl⟩
        obtain ⟨nb', hnb'⟩ : ∃ x : Nat, nb - (1 : Int).toNat = x := ⟨_, rfl⟩
        obtain ⟨cb', hcb'⟩ : ∃ x : Nat, cb - (1 : Int).toNat = x := ⟨_, rfl⟩
        rw [hAb', hnb', hcb'] at hcutb
        have HAb' := Aside0.mk hAb'
        have Hnb' := Aside0.mk hnb'
        have Hcb' := Aside0.mk hcb'
        clear hAb' hnb' hcb'
        have E := Aside0.mk (mergeL_b K hla hlb)
        rw [hxbe] at E
        clear ha hb ha0 hla hlb hxbe
        cases hk : K false true
        · have HK := Aside0.mk hk
          clear hk
          go_wp2_with fail
          repeat (go_quiet (fail); try go_wp2_with (first | (refine goesV_ (some 68) rfl rfl rfl rfl HF.out HN.out HY.out #[.bool false, .bool true] (by simp only [List.map_toArray, List.map_cons, List.map_nil, Array.append_empty]; rfl) ?_; refine (HG.out false true _).mono ?_; rintro e w' ⟨rfl, ⟨nd, rfl⟩⟩; rw [HK.out]; refine ⟨_, rfl, ?_⟩)))
          go_roundg (na + nb')
          case measure => have := Hnb'.out; have := Hcb'.out; have := HN_.out; have := HBD.out; have := HCA.out; have := HCB.out; have := HPA.out; have := HPB.out; have e1 : (1 : Int).toNat = 1 := rfl; omega
          case rel => exact ⟨la, lb.drop 1, o, na, nb', Aa, Ab', ca, cb', rfl, rfl, HLA, ⟨by rw [List.length_drop, HLB.out]; exact Hnb'.out⟩, ⟨rfl⟩, HCA, ⟨by have := Hnb'.out; have := Hcb'.out; have := HN_.out; have := HBD.out; have := HCA.out; have := HCB.out; have := HPA.out; have := HPB.out; have e1 : (1 : Int).toNat = 1 := rfl; omega⟩, ⟨HA.out⟩, ⟨by rw [← HAb'.out]; exact hdrb.out⟩, ⟨(by (with_reducible repeat (first | apply Kd.R_alloc | apply Kd.R_drewN | apply Kd.R_drew)); exact HO.out)⟩, ⟨(by repeat (first | (with_reducible first | exact HB.out | apply below_alloc | apply pw_below_drewN | apply below_drew1) | exact HB.out))⟩, ⟨by rw [HL.out, E.out, HK.out]; simp⟩, ⟨by have := Hnb'.out; have := Hcb'.out; have := HN_.out; have := HBD.out; have := HCA.out; have := HCB.out; have := HPA.out; have := HPB.out; have e1 : (1 : Int).toNat = 1 := rfl; omega⟩⟩
        · have HK := Aside0.mk hk
          clear hk
          go_wp2_with fail
          repeat (go_quiet (fail); try go_wp2_with (first | (refine goesV_ (some 68) rfl rfl rfl rfl HF.out HN.out HY.out #[.bool false, .bool true] (by simp only [List.map_toArray, List.map_cons, List.map_nil, Array.append_empty]; rfl) ?_; refine (HG.out false true _).mono ?_; rintro e w' ⟨rfl, ⟨nd, rfl⟩⟩; rw [HK.out]; refine ⟨_, rfl, ?_⟩) | ((with_reducible refine gate_builtin (b := .append) (xs := #[.tmp 69, .tmp 71]) rfl ?_); at_builtin; refine Kd.R_append (Kd.int .i64) (w0 := w) w.heap.size rfl (.tmp 69) (.tmp 71) 22 3 (.int .i64 0) 8 rfl Try.underlying22 info3 rfl (by decide) (by omega) u7 o xb [.int .i64 xb] (fun _ => True) (fun _ => False) rfl rfl ?aP (fun _ hk => hk.elim) ?aF ?aO ?aB ?aS ?aL ?_; (case aP => exact rfl); (case aB => exact (by repeat (first | (with_reducible first | exact HB.out | apply below_alloc | apply pw_below_drewN | apply below_drew1) | exact HB.out))); (case aF => exact (fun _ _ => trivial)); (case aO => exact (by (with_reducible repeat (first | apply Kd.R_alloc | apply Kd.R_drewN | apply Kd.R_drew)); exact HO.out)); (case aS => exact (below_size (by repeat (first | (with_reducible first | exact HB.out | apply below_alloc | apply pw_below_drewN | apply below_drew1) | exact HB.out)))); (case aL => have := HBD.out; omega); intro vn wn ho hb hg hat; have n0_ := Aside0.mk hb; have n1_ := Aside0.mk ho; clear HB HO; have HB := n0_; have HO := n1_; clear n0_ n1_ ho hb hg hat)))
          go_roundg (na + nb')
          case measure => have := Hnb'.out; have := Hcb'.out; have := HN_.out; have := HBD.out; have := HCA.out; have := HCB.out; have := HPA.out; have := HPB.out; have e1 : (1 : Int).toNat = 1 := rfl; omega
          case rel => exact ⟨la, lb.drop 1, o ++ [xb], na, nb', Aa, Ab', ca, cb', rfl, rfl, HLA, ⟨by rw [List.length_drop, HLB.out]; exact Hnb'.out⟩, ⟨rfl⟩, HCA, ⟨by have := Hnb'.out; have := Hcb'.out; have := HN_.out; have := HBD.out; have := HCA.out; have := HCB.out; have := HPA.out; have := HPB.out; have e1 : (1 : Int).toNat = 1 := rfl; omega⟩, ⟨HA.out⟩, ⟨by rw [← HAb'.out]; exact hdrb.out⟩, ⟨(by (with_reducible repeat (first | apply Kd.R_alloc | apply Kd.R_drewN | apply Kd.R_drew)); exact HO.out)⟩, ⟨(by repeat (first | (with_reducible first | exact HB.out | apply below_alloc | apply pw_below_drewN | apply below_drew1) | exact HB.out))⟩, ⟨by rw [HL.out, E.out, HK.out]; simp⟩, ⟨by simp only [List.length_append, List.length_cons, List.length_nil]; have := Hnb'.out; have := Hcb'.out; have := HN_.out; have := HBD.out; have := HCA.out; have := HCB.out; have := HPA.out; have := HPB.out; have e1 : (1 : Int).toNat = 1 := rfl; omega⟩⟩
      · have E := Aside0.mk (mergeL_nil K (show la.length = 0 by rw [HLA.out]; omega) (show lb.length = 0 by rw [HLB.out]; omega))
        have a1 : decide (0 < (na : Int)) = false := decide_eq_false (by omega)
        have a2 : decide (0 < na) = false := decide_eq_false (by omega)
        have a3 : ((na : Int) == 0) = true := by exact beq_iff_eq.mpr (by omega)
        have a4 : (na == 0) = true := by exact beq_iff_eq.mpr (by omega)
        have b1 : decide (0 < (nb : Int)) = false := decide_eq_false (by omega)
        have b2 : decide (0 < nb) = false := decide_eq_false (by omega)
        have b3 : ((nb : Int) == 0) = true := by exact beq_iff_eq.mpr (by omega)
        have b4 : (nb == 0) = true := by exact beq_iff_eq.mpr (by omega)
        clear ha hb
        go_wp2
        go_ret
        exact ⟨_, rfl, by rw [HL.out, E.out, List.append_nil]; exact HO.out, HB.out⟩

/-! ### impl_merged: function 57 -/
def impl_merged.f (k : Nat) (K : Bool → Bool → Bool) (l0 l1 : List Int) : Option (List Int) := (impl_ListOk.f k l0).bind fun a => (impl_ListOk.f k l1).bind fun b => if (a && b) = true then (if l0.length + l1.length ≤ 1000000 then some (mergeL K l0 l1) else none) else some []
theorem impl_merged.mono (K : Bool → Bool → Bool) : ∀ a0 a1 k, LeO (impl_merged.f k K a0 a1) (impl_merged.f (k + 1) K a0 a1) := by
  intro a0 a1 k
  unfold impl_merged.f
  exact LeO.bind (impl_ListOk.mono _ _) (fun _ => LeO.bind (impl_ListOk.mono _ _) (fun _ => LeO.refl _))
set_option maxHeartbeats 4000000 in
set_option maxRecDepth 100000 in
theorem impl_merged.calls (g : Nat) (fn : Func) (hf : Try.prog.funcs[g]? = some fn) (hname : (fn.name == "runtime.NumGoroutine") = false) (hbody : fn.body.isSome = true) (K : Bool → Bool → Bool) (hg : ∀ (x y : Bool) (W : World), Calls Try.prog g #[.bool x, .bool y] W fun e w' => e = .returned (.bool (K x y)) ∧ Drawn0 W w')
    (k : Nat) (A0 : Option Addr) (c0 : Nat) (l0 : List Int) (A1 : Option Addr) (c1 : Nat) (l1 : List Int) (r : List Int) (w : World) (hr0 : Kd.C (Kd.int .i64) w A0 l0.length l0) (hc0 : l0.length ≤ c0) (hr1 : Kd.C (Kd.int .i64) w A1 l1.length l1) (hc1 : l1.length ≤ c1) (h : impl_merged.f k K l0 l1 = some r) :
    Calls Try.prog 57 #[.slice A0 l0.length c0, .slice A1 l1.length c1, .func (.func g) #[] #[]] w fun e w' => ∃ v0_ : Value, e = .returned (v0_) ∧ Kd.R (Kd.int .i64) 3 w' w.heap.size (fun _ => True) v0_ r ∧ Below w.heap.size w w' := by
  unfold impl_merged.f at h
  obtain ⟨a, ha, h⟩ := Option.bind_eq_some_iff.mp h
  obtain ⟨b, hb, h⟩ := Option.bind_eq_some_iff.mp h
  have H0 : ∀ W, Below w.heap.size w W → Calls Try.prog 26 #[.slice A0 l0.length c0] W fun e w' => e = .returned (.bool a) ∧ Drawn0 W w' := fun W hB => impl_ListOk.calls k A0 c0 l0 a W (Kd.C_below hr0 hB) hc0 ha
  have H1 : ∀ W, Below w.heap.size w W → Calls Try.prog 26 #[.slice A1 l1.length c1] W fun e w' => e = .returned (.bool b) ∧ Drawn0 W w' := fun W hB => impl_ListOk.calls k A1 c1 l1 b W (Kd.C_below hr1 hB) hc1 hb
  have C0 := Aside0.mk H0
  have C1 := Aside0.mk H1
  have HM : ∀ W, Below w.heap.size w W → l0.length + l1.length ≤ 1000000 → Calls Try.prog 91 #[.slice A0 l0.length c0, .slice A1 l1.length c1, .func (.func g) #[] #[]] W fun e w' => ∃ v0_ : Value, e = .returned (v0_) ∧ Kd.R (Kd.int .i64) 3 w' W.heap.size (fun _ => True) v0_ (mergeL K l0 l1) ∧ Below W.heap.size W w' := fun W hB hb => impl_merge_int.calls g fn hf hname hbody K hg A0 c0 l0 A1 c1 l1 W (Kd.C_below hr0 hB) hc0 (Kd.C_below hr1 hB) hc1 hb
  have C2 := Aside0.mk HM
  clear H0 H1 HM ha hb hg hf hr0 hr1
  have HR := Aside0.mk h
  clear h
  obtain ⟨n0, hn0⟩ : ∃ n, l0.length = n := ⟨_, rfl⟩
  obtain ⟨n1, hn1⟩ : ∃ n, l1.length = n := ⟨_, rfl⟩
  rw [hn0, hn1] at C2 HR
  rw [hn0] at C0 hc0 ⊢
  rw [hn1] at C1 hc1 ⊢
  clear hn0 hn1 hc0 hc1
  go_enter Try.func57, Try.ntmps57
  cases a
  · go_wp2_with (refine goesL_ (some 8) rfl rfl Try.func26 (by kernel_rfl) rfl #[.slice A0 n0 c0] rfl (by simp only [List.map_toArray, List.map_cons, List.map_nil]; rfl) ?_; refine (C0.out _ (by repeat (first | exact Below.refl _ _ | apply below_alloc | apply pw_below_drewN | apply below_drew1))).mono ?_; rintro e w' ⟨rfl, ⟨nd, rfl⟩⟩; refine ⟨_, rfl, ?_⟩)
    go_ret
    obtain rfl : [] = r := by have h := HR.out; simpa using h
    exact ⟨_, rfl, Kd.R_nil _ _ _ _ _, pw_below_drewN (Below.refl _ _) _⟩
  · cases b
    · go_wp2_with (refine goesL_ (some 8) rfl rfl Try.func26 (by kernel_rfl) rfl #[.slice A0 n0 c0] rfl (by simp only [List.map_toArray, List.map_cons, List.map_nil]; rfl) ?_; refine (C0.out _ (by repeat (first | exact Below.refl _ _ | apply below_alloc | apply pw_below_drewN | apply below_drew1))).mono ?_; rintro e w' ⟨rfl, ⟨nd, rfl⟩⟩; refine ⟨_, rfl, ?_⟩)
      refine (C1.out _ (by repeat (first | exact Below.refl _ _ | apply below_alloc | apply pw_below_drewN | apply below_drew1))).mono ?_
      rintro e w' ⟨rfl, ⟨nd2, rfl⟩⟩
      go_wp2
      go_ret
      obtain rfl : [] = r := by have h := HR.out; simpa using h
      exact ⟨_, rfl, Kd.R_nil _ _ _ _ _, pw_below_drewN (Below.refl _ _) _⟩
    · have hb : n0 + n1 ≤ 1000000 := by
        have h := HR.out
        rw [if_pos (show (true && true) = true from rfl)] at h
        split at h
        · assumption
        · cases h
      have HB := Aside0.mk hb
      have hr : r = mergeL K l0 l1 := by
        have h := HR.out
        rw [if_pos (show (true && true) = true from rfl), if_pos hb] at h
        exact (Option.some.inj h).symm
      have HE := Aside0.mk hr
      clear hr hb
      go_wp2_with (refine goesL_ (some 8) rfl rfl Try.func26 (by kernel_rfl) rfl #[.slice A0 n0 c0] rfl (by simp only [List.map_toArray, List.map_cons, List.map_nil]; rfl) ?_; refine (C0.out _ (by repeat (first | exact Below.refl _ _ | apply below_alloc | apply pw_below_drewN | apply below_drew1))).mono ?_; rintro e w' ⟨rfl, ⟨nd, rfl⟩⟩; refine ⟨_, rfl, ?_⟩)
      refine (C1.out _ (by repeat (first | exact Below.refl _ _ | apply below_alloc | apply pw_below_drewN | apply below_drew1))).mono ?_
      rintro e w' ⟨rfl, ⟨nd2, rfl⟩⟩
      go_wp2_with (refine goesL_ (some 18) rfl rfl Try.func91 (by kernel_rfl) rfl #[.slice A0 n0 c0, .slice A1 n1 c1, .func (.func g) #[] #[]] rfl (by simp only [List.map_toArray, List.map_cons, List.map_nil]; rfl) ?_; refine (C2.out _ (by repeat (first | exact Below.refl _ _ | apply below_alloc | apply pw_below_drewN | apply below_drew1)) HB.out).mono ?_; rintro e w' ⟨v0, rfl, hv, hbw⟩; refine ⟨_, rfl, ?_⟩)
      go_ret
      exact ⟨_, rfl, by rw [HE.out]; exact hv, Below.trans (by repeat (first | exact Below.refl _ _ | apply below_alloc | apply pw_below_drewN | apply below_drew1)) hbw⟩

/-! ### impl_ListBoth: function 16 -/
def impl_ListBoth.f (k : Nat) (l0 l1 : List Int) : Option (List Int) := impl_merged.f k (fun x y => x && y) l0 l1
theorem impl_ListBoth.mono : ∀ a0 a1 k, LeO (impl_ListBoth.f k a0 a1) (impl_ListBoth.f (k + 1) a0 a1) := fun a0 a1 k => impl_merged.mono _ a0 a1 k
theorem impl_ListBoth.keep (x y : Bool) (W : World) : Calls Try.prog 58 #[.bool x, .bool y] W fun e w' => e = .returned (.bool (x && y)) ∧ Drawn0 W w' := by
  cases x <;> cases y <;> (go_enter Try.func58, Try.ntmps58; go_wp2; go_ret; exact ⟨rfl, ⟨0, rfl⟩⟩)
set_option maxHeartbeats 4000000 in
set_option maxRecDepth 100000 in
theorem impl_ListBoth.calls (k : Nat) (A0 : Option Addr) (c0 : Nat) (l0 : List Int) (A1 : Option Addr) (c1 : Nat) (l1 : List Int) (r : List Int) (w : World) (hr0 : Kd.C (Kd.int .i64) w A0 l0.length l0) (hc0 : l0.length ≤ c0) (hr1 : Kd.C (Kd.int .i64) w A1 l1.length l1) (hc1 : l1.length ≤ c1) (h : impl_ListBoth.f k l0 l1 = some r) :
    Calls Try.prog 16 #[.slice A0 l0.length c0, .slice A1 l1.length c1] w fun e w' => ∃ v0_ : Value, e = .returned (v0_) ∧ Kd.R (Kd.int .i64) 3 w' w.heap.size (fun _ => True) v0_ r ∧ Below w.heap.size w w' := by
  have C := Aside0.mk (fun W hB => impl_merged.calls 58 Try.f58 Try.func58 (by kernel_rfl) (by kernel_rfl) (fun x y => x && y) impl_ListBoth.keep k A0 c0 l0 A1 c1 l1 r W (Kd.C_below hr0 hB) hc0 (Kd.C_below hr1 hB) hc1 h)
  clear hr0 hr1 h
  obtain ⟨n0, hn0⟩ : ∃ n, l0.length = n := ⟨_, rfl⟩
  obtain ⟨n1, hn1⟩ : ∃ n, l1.length = n := ⟨_, rfl⟩
  rw [hn0, hn1] at C ⊢
  clear hn0 hn1 hc0 hc1
  go_enter Try.func16, Try.ntmps16
  go_wp2_with (refine goesL_ (some 7) rfl rfl Try.func57 (by kernel_rfl) rfl #[.slice A0 n0 c0, .slice A1 n1 c1, .func (.func 58) #[] #[]] rfl (by simp only [List.map_toArray, List.map_cons, List.map_nil]; rfl) ?_; refine (C.out _ (Below.refl _ _)).mono ?_; rintro e w' ⟨v0, rfl, hv, hbw⟩; refine ⟨_, rfl, ?_⟩)
  go_ret
  exact ⟨_, rfl, hv, hbw⟩

/-- A state of type 111 at block g of W; what its slices lead to came in by w0. -/
def IsS111 (w0 W : World) (g : Nat) (f0 : List Int) (f1 : Int) : Prop := ∃ A0 c0, W.heap[g]? = some (.cells #[.slice A0 f0.length c0, .int .i64 f1] 111 (0, 0)) ∧ w0.heap.size ≤ g ∧ Kd.C (Kd.int .u8) w0 A0 f0.length f0
theorem IsS111.grown {w0 W : World} {g : Nat} {f0 : List Int} {f1 : Int} {W1 : World} {row : Option Nat} (h : IsS111 w0 W g f0 f1) (hw : W.grownBy W1 row) (hne : some g ≠ row) : IsS111 w0 W1 g f0 f1 := by
  obtain ⟨A0, c0, hb, hg, hr0⟩ := h
  exact ⟨A0, c0, blk_grown hb hw hne, hg, hr0⟩
theorem IsS111.own_neN {w0 W : World} {g : Nat} {f0 : List Int} {f1 : Int} {α : Type} {d : Kd α} {e : Nat} {base : Nat} {ok : Nat → Prop} {v : Value} {xs : List α} (h : IsS111 w0 W g f0 f1) (ho : Kd.N d e W base ok v xs) (ht : e ≠ 111) : some g ≠ v.ownBlock := by
  obtain ⟨A0, c0, hb, hg, hr0⟩ := h
  exact Kd.N_ne ho hb ht
theorem IsS111.fresh {w0 W : World} {g : Nat} {f0 : List Int} {f1 : Int} (h : IsS111 w0 W g f0 f1) : ∀ k, W.heap.size ≤ k → k ≠ g := by
  obtain ⟨A0, c0, hb, hg, hr0⟩ := h
  exact Kd.freshB hb
theorem IsS111.kept {w0 W : World} {g : Nat} {f0 : List Int} {f1 : Int} {W1 : World} {S : Nat → Prop} (h : IsS111 w0 W g f0 f1) (hk : Kept W W1 S) (hne : ¬ S g) : IsS111 w0 W1 g f0 f1 := by
  obtain ⟨A0, c0, hb, hg, hr0⟩ := h
  exact ⟨A0, c0, blk_kept hb hk hne, hg, hr0⟩
theorem IsS111.below {w0 W : World} {g : Nat} {f0 : List Int} {f1 : Int} {W1 : World} (h : IsS111 w0 W g f0 f1) (hw : Below W.heap.size W W1) : IsS111 w0 W1 g f0 f1 := h.grown (grown_of_below hw none) (by simp)
theorem IsS111.alloc {w0 W : World} {g : Nat} {f0 : List Int} {f1 : Int} (h : IsS111 w0 W g f0 f1) (o : Obj) : IsS111 w0 (W.alloc o) g f0 f1 := h.below (below_alloc (Below.refl _ _) o)
theorem IsS111.drewN {w0 W : World} {g : Nat} {f0 : List Int} {f1 : Int} (h : IsS111 w0 W g f0 f1) (m : Nat) : IsS111 w0 (W.drewN m) g f0 f1 := h
theorem IsS111.drew {w0 W : World} {g : Nat} {f0 : List Int} {f1 : Int} (h : IsS111 w0 W g f0 f1) : IsS111 w0 W.drew g f0 f1 := h
theorem IsS111.at_ {w0 W : World} {g : Nat} {f0 : List Int} {f1 : Int} {w' : World} {m : Nat} (hq : W.drewN m = w') (h : IsS111 w0 W g f0 f1) : IsS111 w0 w' g f0 f1 := by subst hq; exact IsS111.drewN h m
theorem IsS111.apart {w0 W : World} {g : Nat} {f0 : List Int} {f1 : Int} {α : Type} {d : Kd α} {e : Nat} {base : Nat} {ok : Nat → Prop} {v : Value} {xs : List α} (h : IsS111 w0 W g f0 f1) (ho : d.R e W base ok v xs) (ht : ∀ q, q ∈ e :: d.E → q ≠ 111) : d.R e W base (fun k => ok k ∧ k ≠ g) v xs := by
  obtain ⟨A0, c0, hb, hg, hr0⟩ := h
  exact Kd.R_types ho hb ht
theorem IsS111.own_ne {w0 W : World} {g : Nat} {f0 : List Int} {f1 : Int} {α : Type} {d : Kd α} {e : Nat} {base : Nat} {ok : Nat → Prop} {v : Value} {xs : List α} (h : IsS111 w0 W g f0 f1) (ho : d.R e W base ok v xs) (ht : e ≠ 111) : some g ≠ v.ownBlock := by
  obtain ⟨A0, c0, hb, hg, hr0⟩ := h
  exact Kd.R_ne ho hb ht
theorem IsS111.apartQ {w0 W : World} {g : Nat} {f0 : List Int} {f1 : Int} {α : Type} {d : Kd α} {e : Nat} {base : Nat} {ok : Nat → Prop} {v : Value} {xs : List α} (h : IsS111 w0 W g f0 f1) (ho : d.Q e W base ok v xs) (ht : ∀ q, q ∈ e :: d.E → q ≠ 111) : d.Q e W base (fun k => ok k ∧ k ≠ g) v xs := by
  obtain ⟨A0, c0, hb, hg, hr0⟩ := h
  exact Kd.Q_types ho hb ht
theorem IsS111.own_neQ {w0 W : World} {g : Nat} {f0 : List Int} {f1 : Int} {α : Type} {d : Kd α} {e : Nat} {base : Nat} {ok : Nat → Prop} {v : Value} {xs : List α} (h : IsS111 w0 W g f0 f1) (ho : d.Q e W base ok v xs) (ht : e ≠ 111) : some g ≠ v.ownBlock := by
  obtain ⟨A0, c0, hb, hg, hr0⟩ := h
  exact Kd.Q_ne ho hb ht
theorem IsS111.apartS {w0 W : World} {g : Nat} {f0 : List Int} {f1 : Int} {α : Type} {d : Kd α} {e : Nat} {base : Nat} {ok : Nat → Prop} {v : Value} {xs : List α} (h : IsS111 w0 W g f0 f1) (ho : d.S e W base ok v xs) (ht : ∀ q, q ∈ e :: d.E → q ≠ 111) : d.S e W base (fun k => ok k ∧ k ≠ g) v xs := by
  obtain ⟨A0, c0, hb, hg, hr0⟩ := h
  exact Kd.S_types ho hb ht
theorem IsS111.own_neS {w0 W : World} {g : Nat} {f0 : List Int} {f1 : Int} {α : Type} {d : Kd α} {e : Nat} {base : Nat} {ok : Nat → Prop} {v : Value} {xs : List α} (h : IsS111 w0 W g f0 f1) (ho : d.S e W base ok v xs) (ht : e ≠ 111) : some g ≠ v.ownBlock := by
  obtain ⟨A0, c0, hb, hg, hr0⟩ := h
  exact Kd.S_ne ho hb ht
theorem IsS111.lt {w0 W : World} {g : Nat} {f0 : List Int} {f1 : Int} (h : IsS111 w0 W g f0 f1) : g < W.heap.size := by
  obtain ⟨A0, c0, hb, hg, hr0⟩ := h
  exact blk_lt hb
theorem IsS111.ge {w0 W : World} {g : Nat} {f0 : List Int} {f1 : Int} (h : IsS111 w0 W g f0 f1) : w0.heap.size ≤ g := by
  obtain ⟨A0, c0, hb, hg, hr0⟩ := h
  exact hg
theorem IsS111.ne_blk {w0 W : World} {g : Nat} {f0 : List Int} {f1 : Int} {a : Nat} {cs : Array Value} {t : TypeId} {fr : Nat × Nat} (h : IsS111 w0 W g f0 f1) (hb2 : W.heap[a]? = some (.cells cs t fr)) (ht : t ≠ 111) : g ≠ a := by
  obtain ⟨A0, c0, hb, hg, hr0⟩ := h
  rintro rfl
  rw [hb] at hb2
  injection hb2 with hb2
  injection hb2 with _ ht2
  exact ht ht2.symm
theorem IsS111.far {w0 W : World} {g : Nat} {f0 : List Int} {f1 : Int} {p : Addr} (h : IsS111 w0 W g f0 f1) (hne : g ≠ p.block) (u : Value) : IsS111 w0 (W.setCell p u) g f0 f1 := by
  obtain ⟨A0, c0, hb, hg, hr0⟩ := h
  exact ⟨A0, c0, blk_far hb hne u, hg, hr0⟩
theorem cellS111_0 {W : World} {g : Nat} {A0 : Option Addr} {c0 : Nat} {f0 : List Int} {f1 : Int} (h : W.heap[g]? = some (.cells #[.slice A0 f0.length c0, .int .i64 f1] 111 (0, 0))) : W.cell? ⟨g, 0, none⟩ = some (.slice A0 f0.length c0) := (blk_cell h 0).trans rfl
theorem cellS111_1 {W : World} {g : Nat} {A0 : Option Addr} {c0 : Nat} {f0 : List Int} {f1 : Int} (h : W.heap[g]? = some (.cells #[.slice A0 f0.length c0, .int .i64 f1] 111 (0, 0))) : W.cell? ⟨g, 1, none⟩ = some (.int .i64 f1) := (blk_cell h 1).trans rfl
theorem IsS111.set_1 {w0 W : World} {g : Nat} {f0 : List Int} {f1 : Int} (h : IsS111 w0 W g f0 f1) (x : Int) : IsS111 w0 (W.setCell ⟨g, 1, none⟩ (.int .i64 x)) g f0 x := by
  obtain ⟨A0, c0, hb, hg, hr0⟩ := h
  exact ⟨A0, c0, by simpa using blk_set hb 1 (.int .i64 x), hg, hr0⟩
theorem IsS111.new (w0 W : World) (A0 : Option Addr) (c0 : Nat) (f0 : List Int) (f1 : Int) (hB : Below w0.heap.size w0 W) (hr0 : Kd.C (Kd.int .u8) w0 A0 f0.length f0) : IsS111 w0 (W.alloc (.cells #[.slice A0 f0.length c0, .int .i64 f1] 111)) W.heap.size f0 f1 := ⟨A0, c0, by simpa using heap_alloc_new W _, hB.size, hr0⟩

/-! ### spec_l1Open: function 62 -/
def spec_l1Open.f (l0 : List Int) : Option (List Int × Int) := if (l0.length : Int) > 2000 then (if 2000 ≤ (l0.length : Int) then (some (l0.take 2000, 0)) else (none)) else (some (l0, 0))
set_option maxHeartbeats 8000000 in
set_option maxRecDepth 100000 in
theorem spec_l1Open.calls (A0 : Option Addr) (c0 : Nat) (l0 : List Int) (r1 : List Int) (r2 : Int) (w0 w : World) (hB : Below w0.heap.size w0 w) (hr0 : Kd.C (Kd.int .u8) w0 A0 l0.length l0) (hc0 : l0.length ≤ c0) (h : spec_l1Open.f l0 = some (r1, r2)) :
    Calls Try.prog 62 #[.slice A0 l0.length c0] w fun e w' => ∃ g_ : Nat, e = .returned (.pointer (some ⟨g_, 0, none⟩)) ∧ IsS111 w0 w' g_ r1 r2 ∧ Below w0.heap.size w0 w' ∧ Below w.heap.size w w' := by
  have hu111 := Try.underlying111
  have HR0 := Aside0.mk hr0
  have HC0 := Aside0.mk hc0
  clear hr0 hc0
  have HBW := Aside0.mk (Below.refl w.heap.size w)
  have HW0 := Aside0.mk hB.size
  have HB := Aside0.mk hB
  clear hB
  have H : (if (l0.length : Int) > 2000 then (if 2000 ≤ (l0.length : Int) then (some (l0.take 2000, 0)) else (none)) else (some (l0, 0))) = some (r1, r2) := h
  clear h
  by_cases c2 : (l0.length : Int) > 2000
  · rw [if_pos c2] at H
    have c2b0 : decide (2000 < (l0.length : Int)) = true := decide_eq_true c2
    have c2b1 : decide (2000 < l0.length) = true := decide_eq_true (by omega)
    clear c2
    by_cases c3 : 2000 ≤ (l0.length : Int)
    · rw [if_pos c3] at H
      have c3b0 := eq_true c3
      have c3b1 : decide (2000 ≤ (l0.length : Int)) = true := decide_eq_true c3
      clear c3
      simp only [Option.some.injEq, Prod.mk.injEq] at H
      obtain ⟨rfl, rfl⟩ := H
      obtain ⟨i04, hi04, _, hsz4, _⟩ := info_parts info5
      obtain ⟨hcut4, hA4, hC4⟩ := print_take_of (P := Try.prog) (Value.int .u8) 0 27 5 .i64 Try.underlying27 hi04 hsz4 A0 c0 l0 2000 (by omega) (of_decide_eq_true (by first | (with_reducible assumption) | assumption)) HC0.out
      have HR118 := Aside0.mk (Kd.C_of_reads (h1 := fun _ => rfl) (hA4 _ (Kd.reads_of_C HR0.out)))
      have HC118 := Aside0.mk hC4
      clear hA4 hC4 hi04 hsz4
      go_enter Try.func62, Try.ntmps62
      go_wp2_with (first | ((with_reducible refine gate_dst (N := 10) rfl ?_); refine box_event ?hg (N := 10) ?hd (cs := #[.slice A0 (l0.take 2000).length c0, .int .i64 0]) (t := 111) ?hr ?_; (case hd => rfl); (case hg => rfl); (case hr => first | (go_simp; done) | (go_simp; rfl)); intro gb119 hg w5 hbox hb; have n0_ := Aside0.mk (below_step HBW.out hb); have n1_ := Aside0.mk (below_step (by repeat (first | (with_reducible first | exact HB.out | apply below_alloc | apply pw_below_drewN | apply below_drew1) | exact HB.out)) hb); have n2_ := Aside0.mk (hbox); have n3_ := Aside0.mk ((by rw [hg]; exact (below_size (by repeat (first | (with_reducible first | exact HBW.out | apply below_alloc | apply pw_below_drewN | apply below_drew1) | exact HBW.out))) : w.heap.size ≤ gb119)); have n4_ := Aside0.mk ((Nat.le_trans HW0.out (by rw [hg]; exact (below_size (by repeat (first | (with_reducible first | exact HBW.out | apply below_alloc | apply pw_below_drewN | apply below_drew1) | exact HBW.out))) : w.heap.size ≤ gb119) : w0.heap.size ≤ gb119)); clear HBW; clear HB; have HBW := n0_; have HB := n1_; have BK119 := n2_; have GW119 := n3_; have GE119 := n4_; clear n0_ n1_ n2_ n3_ n4_; clear hb hbox hg))
      go_ret
      exact ⟨_, rfl, (show IsS111 w0 _ gb119 (l0.take 2000) 0 from ⟨_, _, by (with_reducible repeat (first | refine blk_drewN ?_ _ | refine blk_drew ?_ | refine blk_alloc ?_ _)); exact BK119.out, GE119.out, HR118.out⟩), by repeat (first | (with_reducible first | exact HB.out | apply below_alloc | apply pw_below_drewN | apply below_drew1 | refine below_set ?_ GE119.out) | exact HB.out), by repeat (first | (with_reducible first | exact HBW.out | apply below_alloc | apply pw_below_drewN | apply below_drew1 | refine below_set ?_ GW119.out) | exact HBW.out)⟩
    · rw [if_neg c3] at H
      exact absurd H (by simp)
  · rw [if_neg c2] at H
    have c2b0 : decide (2000 < (l0.length : Int)) = false := decide_eq_false c2
    have c2b1 : decide (2000 < l0.length) = false := decide_eq_false (by omega)
    clear c2
    simp only [Option.some.injEq, Prod.mk.injEq] at H
    obtain ⟨rfl, rfl⟩ := H
    go_enter Try.func62, Try.ntmps62
    go_wp2_with (first | ((with_reducible refine gate_dst (N := 10) rfl ?_); refine box_event ?hg (N := 10) ?hd (cs := #[.slice A0 l0.length c0, .int .i64 0]) (t := 111) ?hr ?_; (case hd => rfl); (case hg => rfl); (case hr => first | (go_simp; done) | (go_simp; rfl)); intro gb120 hg w6 hbox hb; have n0_ := Aside0.mk (below_step HBW.out hb); have n1_ := Aside0.mk (below_step (by repeat (first | (with_reducible first | exact HB.out | apply below_alloc | apply pw_below_drewN | apply below_drew1) | exact HB.out)) hb); have n2_ := Aside0.mk (hbox); have n3_ := Aside0.mk ((by rw [hg]; exact (below_size (by repeat (first | (with_reducible first | exact HBW.out | apply below_alloc | apply pw_below_drewN | apply below_drew1) | exact HBW.out))) : w.heap.size ≤ gb120)); have n4_ := Aside0.mk ((Nat.le_trans HW0.out (by rw [hg]; exact (below_size (by repeat (first | (with_reducible first | exact HBW.out | apply below_alloc | apply pw_below_drewN | apply below_drew1) | exact HBW.out))) : w.heap.size ≤ gb120) : w0.heap.size ≤ gb120)); clear HBW; clear HB; have HBW := n0_; have HB := n1_; have BK120 := n2_; have GW120 := n3_; have GE120 := n4_; clear n0_ n1_ n2_ n3_ n4_; clear hb hbox hg))
    go_ret
    exact ⟨_, rfl, (show IsS111 w0 _ gb120 l0 0 from ⟨_, _, by (with_reducible repeat (first | refine blk_drewN ?_ _ | refine blk_drew ?_ | refine blk_alloc ?_ _)); exact BK120.out, GE120.out, HR0.out⟩), by repeat (first | (with_reducible first | exact HB.out | apply below_alloc | apply pw_below_drewN | apply below_drew1 | refine below_set ?_ GE120.out) | exact HB.out), by repeat (first | (with_reducible first | exact HBW.out | apply below_alloc | apply pw_below_drewN | apply below_drew1 | refine below_set ?_ GW120.out) | exact HBW.out)⟩

/-! ### spec_l1Rd_pick: function 92 -/
def spec_l1Rd_pick.j0 : Nat → Int → Bool → List Int → Int → Option (Int × Int)
  | 0, _, _, _, _ => none
  | k + 1, x1, x24, x1000, x1001 => if x24 = true then (some (0, x1001)) else (if (wrap64 (x1001 - 1)) < (x1000.length : Int) then (if 0 ≤ (wrap64 (x1001 - 1)) then (if x1 = 0 then (none) else (some (Int.tmod (wrap64 (rd x1000 (wrap64 (x1001 - 1)))) x1, x1001))) else (none)) else (if (x1000.length : Int) = 0 then (none) else (if 0 ≤ (Int.tmod (wrap64 (x1001 - 1)) (x1000.length : Int)) then (if (Int.tmod (wrap64 (x1001 - 1)) (x1000.length : Int)) < (x1000.length : Int) then (if 0 ≤ (Int.tmod (wrap64 ((wrap64 ((wrap64 (x1001 - 1)) * 7)) + 3)) (x1000.length : Int)) then (if (Int.tmod (wrap64 ((wrap64 ((wrap64 (x1001 - 1)) * 7)) + 3)) (x1000.length : Int)) < (x1000.length : Int) then (if x1 = 0 then (none) else (some (Int.tmod (Go.bits .xor .i64 (wrap64 ((wrap64 ((wrap64 ((wrap64 ((wrap64 (rd x1000 (Int.tmod (wrap64 (x1001 - 1)) (x1000.length : Int)))) * 131)) + (wrap64 ((wrap64 (rd x1000 (Int.tmod (wrap64 ((wrap64 ((wrap64 (x1001 - 1)) * 7)) + 3)) (x1000.length : Int)))) * 1117)))) + (wrap64 ((wrap64 (x1001 - 1)) * 29)))) + (wrap64 ((wrap64 (Int.tdiv (wrap64 (x1001 - 1)) (x1000.length : Int))) * 53)))) (wrap64 (Int.tdiv (wrap64 ((wrap64 ((wrap64 ((wrap64 ((wrap64 (rd x1000 (Int.tmod (wrap64 (x1001 - 1)) (x1000.length : Int)))) * 131)) + (wrap64 ((wrap64 (rd x1000 (Int.tmod (wrap64 ((wrap64 ((wrap64 (x1001 - 1)) * 7)) + 3)) (x1000.length : Int)))) * 1117)))) + (wrap64 ((wrap64 (x1001 - 1)) * 29)))) + (wrap64 ((wrap64 (Int.tdiv (wrap64 (x1001 - 1)) (x1000.length : Int))) * 53)))) 64))) x1, x1001))) else (none)) else (none)) else (none)) else (none))))
def spec_l1Rd_pick.f (k : Nat) (s0_0 : List Int) (s0_1 : Int) (a1 : Int) : Option (Int × Int) := if a1 < 1 then (spec_l1Rd_pick.j0 k a1 true s0_0 (wrap64 (s0_1 + 1))) else (spec_l1Rd_pick.j0 k a1 ((s0_0.length : Int) == 0) s0_0 (wrap64 (s0_1 + 1)))
theorem spec_l1Rd_pick.mono_l : ∀ k, (∀ y0 y1 y2 y3, LeO (spec_l1Rd_pick.j0 k y0 y1 y2 y3) (spec_l1Rd_pick.j0 (k + 1) y0 y1 y2 y3))
  | 0 => fun _ _ _ _ r h => by simp [spec_l1Rd_pick.j0] at h
  | k + 1 => by
    have ih0 := spec_l1Rd_pick.mono_l k
    · intro y0 y1 y2 y3
      unfold spec_l1Rd_pick.j0
      repeat' first
      | (with_reducible exact ih0 _ _ _ _)
      | (with_reducible exact LeO.refl _)
      | (with_reducible exact LeO.none _)
      | (with_reducible refine LeO.ite ?_ ?_)
      | (with_reducible refine LeO.bind ?_ (fun _ => ?_))
      | exact ih0 _ _ _ _
      | exact LeO.none _
      | refine LeO.ite ?_ ?_
      | refine LeO.bind ?_ (fun _ => ?_)
theorem spec_l1Rd_pick.mono : ∀ a0 a1 a2 k, LeO (spec_l1Rd_pick.f k a0 a1 a2) (spec_l1Rd_pick.f (k + 1) a0 a1 a2) := by
  intro a0 a1 a2 k
  have ih0 := spec_l1Rd_pick.mono_l k
  unfold spec_l1Rd_pick.f
  repeat' first
      | (with_reducible exact ih0 _ _ _ _)
      | (with_reducible exact LeO.refl _)
      | (with_reducible exact LeO.none _)
      | (with_reducible refine LeO.ite ?_ ?_)
      | (with_reducible refine LeO.bind ?_ (fun _ => ?_))
      | exact ih0 _ _ _ _
      | exact LeO.none _
      | refine LeO.ite ?_ ?_
      | refine LeO.bind ?_ (fun _ => ?_)
set_option maxHeartbeats 8000000 in
set_option maxRecDepth 100000 in
theorem spec_l1Rd_pick.calls (k : Nat) (g : Nat) (s0_0 : List Int) (s0_1 : Int) (a1 : Int) (r1 : Int) (r2 : Int) (w0 w : World) (hI : IsS111 w0 w g s0_0 s0_1) (hB : Below w0.heap.size w0 w) (h : spec_l1Rd_pick.f k s0_0 s0_1 a1 = some (r1, r2)) :
    Calls Try.prog 92 #[.pointer (some ⟨g, 0, none⟩), .int .i64 a1] w fun e w' => e = .returned (.int .i64 r1) ∧ IsS111 w0 w' g s0_0 r2 ∧ Below w0.heap.size w0 w' ∧ KeepBut w w' g none := by
  have HI0 := Aside0.mk hI
  have HK := Aside0.mk (KeepBut.refl w g none)
  have HL := Aside0.mk hB.size
  clear hI
  have HW0 := Aside0.mk hB.size
  have HB := Aside0.mk hB
  clear hB
  have H : (if a1 < 1 then (spec_l1Rd_pick.j0 k a1 true s0_0 (wrap64 (s0_1 + 1))) else (spec_l1Rd_pick.j0 k a1 ((s0_0.length : Int) == 0) s0_0 (wrap64 (s0_1 + 1)))) = some (r1, r2) := h
  clear h
  have HC3 := Aside0.mk H
  clear H
  obtain ⟨ASz4_0, cSz4_0, HGz4, hgz4, HSz4_0⟩ := HI0.out
  have hcz4_0 := cellS111_0 HGz4
  have hcz4_1 := cellS111_1 HGz4
  have hfz4_1 := blk_frozen HGz4 1
  clear HGz4 hgz4
  go_enter Try.func92, Try.ntmps92
  go_upto_region 2 with (fail)
  repeat (go_quiet (fail); go_upto_region 2 with (fail))
  go_cut [24] (fun v24 wc => ∃ (kq : Nat) (x24_2 : Bool), v24 = .bool x24_2 ∧ Aside0 (spec_l1Rd_pick.j0 kq a1 x24_2 s0_0 (wrap64 (s0_1 + 1)) = some (r1, r2)) ∧ Aside0 (kq ≤ k) ∧ Aside0 (IsS111 w0 wc g s0_0 (wrap64 (s0_1 + 1))) ∧ Aside0 (KeepBut w wc g none) ∧ Aside0 (Below w0.heap.size w0 wc))
  case first =>
    have H := HC3.out
    clear HC3
    by_cases c5 : a1 < 1
    · rw [if_pos c5] at H
      have c5b0 : decide (a1 < 1) = true := decide_eq_true c5
      clear c5
      (first | rw [c5b0] | (simp only [i64_w, i32_w]; rw [c5b0]) | skip)
      have H' := Aside0.mk H
      clear H
      go_wp2
      repeat (go_quiet (fail); try go_wp2)
      go_meet
      case rel => exact ⟨_, (true), (by first | rfl | (simp; done) | (simp [*]; done) | (simp only [my_ne_nil]; rfl)), H', ⟨by first | omega | exact Nat.le_refl _⟩, ⟨by repeat (first | (with_reducible first | exact HI0.out | apply IsS111.alloc | apply IsS111.drewN | apply IsS111.drew | apply IsS111.set_1) | exact HI0.out)⟩, ⟨by repeat (first | (with_reducible first | exact HK.out | apply KeepBut.set_ | apply keep_drewN | apply keep_drew | apply keep_alloc) | exact HK.out)⟩, ⟨by repeat (first | (with_reducible first | exact HB.out | apply below_alloc | apply pw_below_drewN | apply below_drew1 | refine below_set ?_ (IsS111.ge HI0.out)) | exact HB.out)⟩⟩
    · rw [if_neg c5] at H
      have c5b0 : decide (a1 < 1) = false := decide_eq_false c5
      clear c5
      (first | rw [c5b0] | (simp only [i64_w, i32_w]; rw [c5b0]) | skip)
      have H' := Aside0.mk H
      clear H
      obtain ⟨ASz6_0, cSz6_0, HGz6, hgz6, HSz6_0⟩ := HI0.out
      have hcz6_0 := cellS111_0 HGz6
      have hcz6_1 := cellS111_1 HGz6
      have hfz6_1 := blk_frozen HGz6 1
      clear HGz6 hgz6
      go_wp2
      repeat (go_quiet (fail); try go_wp2)
      go_meet
      case rel => exact ⟨_, (((s0_0.length : Int) == 0)), (by first | rfl | (simp; done) | (simp [*]; done) | (simp only [my_ne_nil]; rfl)), H', ⟨by first | omega | exact Nat.le_refl _⟩, ⟨by repeat (first | (with_reducible first | exact HI0.out | apply IsS111.alloc | apply IsS111.drewN | apply IsS111.drew | apply IsS111.set_1) | exact HI0.out)⟩, ⟨by repeat (first | (with_reducible first | exact HK.out | apply KeepBut.set_ | apply keep_drewN | apply keep_drew | apply keep_alloc) | exact HK.out)⟩, ⟨by repeat (first | (with_reducible first | exact HB.out | apply below_alloc | apply pw_below_drewN | apply below_drew1 | refine below_set ?_ (IsS111.ge HI0.out)) | exact HB.out)⟩⟩
  case rest =>
    clear HC3
    try clear p2
    try clear c5
    try clear c5b0
    try clear p6
    try clear hcz4_0
    try clear hcz4_1
    try clear hcz6_0
    try clear hcz6_1
    try clear hfz4_1
    try clear hfz6_1
    obtain ⟨kq, x24_2, rfl, HA, HJ2, HI0, HK, HB⟩ := hcut
    cases kq with
    | zero => exact absurd HA.out (by simp [spec_l1Rd_pick.j0])
    | succ kj2 =>
      have H := HA.out
      clear HA
      simp only [spec_l1Rd_pick.j0] at H
      by_cases c7 : x24_2 = true
      · subst c7
        have H1 : (some (0, (wrap64 (s0_1 + 1)))) = some (r1, r2) := by rw [if_pos rfl] at H; exact H
        clear H
        have H := H1
        clear H1
        simp only [Option.some.injEq, Prod.mk.injEq] at H
        obtain ⟨rfl, rfl⟩ := H
        go_wp2
        repeat (go_quiet (fail); try go_wp2)
        go_ret
        exact ⟨by first | rfl | (simp [errW_none, errW_some] <;> rfl) | (simp [*, errW_none, errW_some] <;> rfl), by repeat (first | (with_reducible first | exact HI0.out | apply IsS111.alloc | apply IsS111.drewN | apply IsS111.drew | apply IsS111.set_1) | exact HI0.out), by repeat (first | (with_reducible first | exact HB.out | apply below_alloc | apply pw_below_drewN | apply below_drew1 | refine below_set ?_ (IsS111.ge HI0.out)) | exact HB.out), by repeat (first | (with_reducible first | exact HK.out | apply KeepBut.set_ | apply keep_drewN | apply keep_drew | apply keep_alloc) | exact HK.out)⟩
      · replace c7 := Bool.eq_false_iff.mpr c7
        subst c7
        have H1 : (if (wrap64 ((wrap64 (s0_1 + 1)) - 1)) < (s0_0.length : Int) then (if 0 ≤ (wrap64 ((wrap64 (s0_1 + 1)) - 1)) then (if a1 = 0 then (none) else (some (Int.tmod (wrap64 (rd s0_0 (wrap64 ((wrap64 (s0_1 + 1)) - 1)))) a1, (wrap64 (s0_1 + 1))))) else (none)) else (if (s0_0.length : Int) = 0 then (none) else (if 0 ≤ (Int.tmod (wrap64 ((wrap64 (s0_1 + 1)) - 1)) (s0_0.length : Int)) then (if (Int.tmod (wrap64 ((wrap64 (s0_1 + 1)) - 1)) (s0_0.length : Int)) < (s0_0.length : Int) then (if 0 ≤ (Int.tmod (wrap64 ((wrap64 ((wrap64 ((wrap64 (s0_1 + 1)) - 1)) * 7)) + 3)) (s0_0.length : Int)) then (if (Int.tmod (wrap64 ((wrap64 ((wrap64 ((wrap64 (s0_1 + 1)) - 1)) * 7)) + 3)) (s0_0.length : Int)) < (s0_0.length : Int) then (if a1 = 0 then (none) else (some (Int.tmod (Go.bits .xor .i64 (wrap64 ((wrap64 ((wrap64 ((wrap64 ((wrap64 (rd s0_0 (Int.tmod (wrap64 ((wrap64 (s0_1 + 1)) - 1)) (s0_0.length : Int)))) * 131)) + (wrap64 ((wrap64 (rd s0_0 (Int.tmod (wrap64 ((wrap64 ((wrap64 ((wrap64 (s0_1 + 1)) - 1)) * 7)) + 3)) (s0_0.length : Int)))) * 1117)))) + (wrap64 ((wrap64 ((wrap64 (s0_1 + 1)) - 1)) * 29)))) + (wrap64 ((wrap64 (Int.tdiv (wrap64 ((wrap64 (s0_1 + 1)) - 1)) (s0_0.length : Int))) * 53)))) (wrap64 (Int.tdiv (wrap64 ((wrap64 ((wrap64 ((wrap64 ((wrap64 (rd s0_0 (Int.tmod (wrap64 ((wrap64 (s0_1 + 1)) - 1)) (s0_0.length : Int)))) * 131)) + (wrap64 ((wrap64 (rd s0_0 (Int.tmod (wrap64 ((wrap64 ((wrap64 ((wrap64 (s0_1 + 1)) - 1)) * 7)) + 3)) (s0_0.length : Int)))) * 1117)))) + (wrap64 ((wrap64 ((wrap64 (s0_1 + 1)) - 1)) * 29)))) + (wrap64 ((wrap64 (Int.tdiv (wrap64 ((wrap64 (s0_1 + 1)) - 1)) (s0_0.length : Int))) * 53)))) 64))) a1, (wrap64 (s0_1 + 1))))) else (none)) else (none)) else (none)) else (none)))) = some (r1, r2) := by rw [if_neg (show ¬ (false = true) by decide)] at H; exact H
        clear H
        have H := H1
        clear H1
        by_cases c8 : (wrap64 ((wrap64 (s0_1 + 1)) - 1)) < (s0_0.length : Int)
        · rw [if_pos c8] at H
          have c8b0 : decide ((wrap64 ((wrap64 (s0_1 + 1)) - 1)) < (s0_0.length : Int)) = true := decide_eq_true c8
          clear c8
          obtain ⟨ji9, hji9⟩ : ∃ j_ : Int, (wrap64 ((wrap64 (s0_1 + 1)) - 1)) = j_ := ⟨_, rfl⟩
          replace H : (if 0 ≤ (ji9) then (if a1 = 0 then (none) else (some (Int.tmod (wrap64 (rd s0_0 (ji9))) a1, (wrap64 (s0_1 + 1))))) else (none)) = some (r1, r2) := by first | (rw [hji9] at H; exact H) | (simp only [hji9] at H ⊢; exact H)
          (try rw [hji9] at c8b0)
          have hji9w : (IntKind.i64.wrap ((wrap64 (s0_1 + 1)) - 1)) = ji9 := (i64_w _).trans hji9
          by_cases c10 : 0 ≤ (ji9)
          · rw [if_pos c10] at H
            have c10b0 : decide (0 ≤ (ji9)) = true := decide_eq_true c10
            clear c10
            by_cases c11 : a1 = 0
            · rw [if_pos c11] at H
              exact absurd H (by simp)
            · rw [if_neg c11] at H
              have c11b0 : (a1 == 0) = false := beq_eq_false_iff_ne.mpr c11
              have c11b1 : (a1 != 0) = true := bne_iff_ne.mpr c11
              simp only [Option.some.injEq, Prod.mk.injEq] at H
              obtain ⟨rfl, rfl⟩ := H
              obtain ⟨ASz12_0, cSz12_0, HGz12, hgz12, HSz12_0⟩ := HI0.out
              have hcz12_0 := cellS111_0 HGz12
              have hcz12_1 := cellS111_1 HGz12
              have hfz12_1 := blk_frozen HGz12 1
              clear HGz12 hgz12
              have p121 : 0 ≤ ((ji9) : Int) := of_decide_eq_true (by first | (with_reducible assumption) | assumption)
              have q121 : (ji9) < (s0_0.length : Int) := of_decide_eq_true (by first | (with_reducible assumption) | assumption)
              obtain ⟨ad121, e121, hx121_0⟩ := Kd.at_int HSz12_0 (ji9) p121 q121
              cases e121
              replace hx121_0 := pw_cell_below HB.out hx121_0
              replace p121 := eq_true p121
              replace q121 := eq_true q121
              go_wp2
              repeat (go_quiet (fail); try go_wp2)
              go_ret
              exact ⟨by first | rfl | (simp [errW_none, errW_some] <;> rfl) | (simp only [← hji9]; first | rfl | (simp [errW_none, errW_some] <;> rfl)) | (simp [*, errW_none, errW_some] <;> rfl), by repeat (first | (with_reducible first | exact HI0.out | apply IsS111.alloc | apply IsS111.drewN | apply IsS111.drew | apply IsS111.set_1) | exact HI0.out), by repeat (first | (with_reducible first | exact HB.out | apply below_alloc | apply pw_below_drewN | apply below_drew1 | refine below_set ?_ (IsS111.ge HI0.out)) | exact HB.out), by repeat (first | (with_reducible first | exact HK.out | apply KeepBut.set_ | apply keep_drewN | apply keep_drew | apply keep_alloc) | exact HK.out)⟩
          · rw [if_neg c10] at H
            exact absurd H (by simp)
        · rw [if_neg c8] at H
          have c8b0 : decide ((wrap64 ((wrap64 (s0_1 + 1)) - 1)) < (s0_0.length : Int)) = false := decide_eq_false c8
          clear c8
          by_cases c13 : (s0_0.length : Int) = 0
          · rw [if_pos c13] at H
            exact absurd H (by simp)
          · rw [if_neg c13] at H
            have c13b0 : ((s0_0.length : Int) == 0) = false := beq_eq_false_iff_ne.mpr c13
            have c13b1 : ((s0_0.length : Int) != 0) = true := bne_iff_ne.mpr c13
            have c13b2 : ¬ (s0_0 = []) := fun h_ => c13 (by rw [h_]; rfl)
            obtain ⟨ji14, hji14⟩ : ∃ j_ : Int, (Int.tmod (wrap64 ((wrap64 (s0_1 + 1)) - 1)) (s0_0.length : Int)) = j_ := ⟨_, rfl⟩
            replace H : (if 0 ≤ (ji14) then (if (ji14) < (s0_0.length : Int) then (if 0 ≤ (Int.tmod (wrap64 ((wrap64 ((wrap64 ((wrap64 (s0_1 + 1)) - 1)) * 7)) + 3)) (s0_0.length : Int)) then (if (Int.tmod (wrap64 ((wrap64 ((wrap64 ((wrap64 (s0_1 + 1)) - 1)) * 7)) + 3)) (s0_0.length : Int)) < (s0_0.length : Int) then (if a1 = 0 then (none) else (some (Int.tmod (Go.bits .xor .i64 (wrap64 ((wrap64 ((wrap64 ((wrap64 ((wrap64 (rd s0_0 (ji14))) * 131)) + (wrap64 ((wrap64 (rd s0_0 (Int.tmod (wrap64 ((wrap64 ((wrap64 ((wrap64 (s0_1 + 1)) - 1)) * 7)) + 3)) (s0_0.length : Int)))) * 1117)))) + (wrap64 ((wrap64 ((wrap64 (s0_1 + 1)) - 1)) * 29)))) + (wrap64 ((wrap64 (Int.tdiv (wrap64 ((wrap64 (s0_1 + 1)) - 1)) (s0_0.length : Int))) * 53)))) (wrap64 (Int.tdiv (wrap64 ((wrap64 ((wrap64 ((wrap64 ((wrap64 (rd s0_0 (ji14))) * 131)) + (wrap64 ((wrap64 (rd s0_0 (Int.tmod (wrap64 ((wrap64 ((wrap64 ((wrap64 (s0_1 + 1)) - 1)) * 7)) + 3)) (s0_0.length : Int)))) * 1117)))) + (wrap64 ((wrap64 ((wrap64 (s0_1 + 1)) - 1)) * 29)))) + (wrap64 ((wrap64 (Int.tdiv (wrap64 ((wrap64 (s0_1 + 1)) - 1)) (s0_0.length : Int))) * 53)))) 64))) a1, (wrap64 (s0_1 + 1))))) else (none)) else (none)) else (none)) else (none)) = some (r1, r2) := by first | (rw [hji14] at H; exact H) | (simp only [hji14] at H ⊢; exact H)
            by_cases c15 : 0 ≤ (ji14)
            · rw [if_pos c15] at H
              have c15b0 : decide (0 ≤ (ji14)) = true := decide_eq_true c15
              clear c15
              by_cases c16 : (ji14) < (s0_0.length : Int)
              · rw [if_pos c16] at H
                have c16b0 : decide ((ji14) < (s0_0.length : Int)) = true := decide_eq_true c16
                clear c16
                obtain ⟨ji17, hji17⟩ : ∃ j_ : Int, (Int.tmod (wrap64 ((wrap64 ((wrap64 ((wrap64 (s0_1 + 1)) - 1)) * 7)) + 3)) (s0_0.length : Int)) = j_ := ⟨_, rfl⟩
                replace H : (if 0 ≤ (ji17) then (if (ji17) < (s0_0.length : Int) then (if a1 = 0 then (none) else (some (Int.tmod (Go.bits .xor .i64 (wrap64 ((wrap64 ((wrap64 ((wrap64 ((wrap64 (rd s0_0 (ji14))) * 131)) + (wrap64 ((wrap64 (rd s0_0 (ji17))) * 1117)))) + (wrap64 ((wrap64 ((wrap64 (s0_1 + 1)) - 1)) * 29)))) + (wrap64 ((wrap64 (Int.tdiv (wrap64 ((wrap64 (s0_1 + 1)) - 1)) (s0_0.length : Int))) * 53)))) (wrap64 (Int.tdiv (wrap64 ((wrap64 ((wrap64 ((wrap64 ((wrap64 (rd s0_0 (ji14))) * 131)) + (wrap64 ((wrap64 (rd s0_0 (ji17))) * 1117)))) + (wrap64 ((wrap64 ((wrap64 (s0_1 + 1)) - 1)) * 29)))) + (wrap64 ((wrap64 (Int.tdiv (wrap64 ((wrap64 (s0_1 + 1)) - 1)) (s0_0.length : Int))) * 53)))) 64))) a1, (wrap64 (s0_1 + 1))))) else (none)) else (none)) = some (r1, r2) := by first | (rw [hji17] at H; exact H) | (simp only [hji17] at H ⊢; exact H)
                by_cases c18 : 0 ≤ (ji17)
                · rw [if_pos c18] at H
                  have c18b0 : decide (0 ≤ (ji17)) = true := decide_eq_true c18
                  clear c18
                  by_cases c19 : (ji17) < (s0_0.length : Int)
                  · rw [if_pos c19] at H
                    have c19b0 : decide ((ji17) < (s0_0.length : Int)) = true := decide_eq_true c19
                    clear c19
                    by_cases c20 : a1 = 0
                    · rw [if_pos c20] at H
                      exact absurd H (by simp)
                    · rw [if_neg c20] at H
                      have c20b0 : (a1 == 0) = false := beq_eq_false_iff_ne.mpr c20
                      have c20b1 : (a1 != 0) = true := bne_iff_ne.mpr c20
                      simp only [Option.some.injEq, Prod.mk.injEq] at H
                      obtain ⟨rfl, rfl⟩ := H
                      obtain ⟨ASz21_0, cSz21_0, HGz21, hgz21, HSz21_0⟩ := HI0.out
                      have hcz21_0 := cellS111_0 HGz21
                      have hcz21_1 := cellS111_1 HGz21
                      have hfz21_1 := blk_frozen HGz21 1
                      clear HGz21 hgz21
                      have p122 : 0 ≤ ((ji14) : Int) := of_decide_eq_true (by first | (with_reducible assumption) | assumption)
                      have q122 : (ji14) < (s0_0.length : Int) := of_decide_eq_true (by first | (with_reducible assumption) | assumption)
                      obtain ⟨ad122, e122, hx122_0⟩ := Kd.at_int HSz21_0 (ji14) p122 q122
                      cases e122
                      replace hx122_0 := pw_cell_below HB.out hx122_0
                      replace p122 := eq_true p122
                      replace q122 := eq_true q122
                      have p123 : 0 ≤ ((ji17) : Int) := of_decide_eq_true (by first | (with_reducible assumption) | assumption)
                      have q123 : (ji17) < (s0_0.length : Int) := of_decide_eq_true (by first | (with_reducible assumption) | assumption)
                      obtain ⟨ad123, e123, hx123_0⟩ := Kd.at_int HSz21_0 (ji17) p123 q123
                      obtain rfl : ad122 = ad123 := (by injection e123)
                      replace hx123_0 := pw_cell_below HB.out hx123_0
                      replace p123 := eq_true p123
                      replace q123 := eq_true q123
                      go_wp2
                      repeat (go_quiet (fail); try go_wp2)
                      go_ret
                      exact ⟨by first | rfl | (simp [errW_none, errW_some] <;> rfl) | (simp only [← hji14, ← hji17]; first | rfl | (simp [errW_none, errW_some] <;> rfl)) | (simp [*, errW_none, errW_some] <;> rfl), by repeat (first | (with_reducible first | exact HI0.out | apply IsS111.alloc | apply IsS111.drewN | apply IsS111.drew | apply IsS111.set_1) | exact HI0.out), by repeat (first | (with_reducible first | exact HB.out | apply below_alloc | apply pw_below_drewN | apply below_drew1 | refine below_set ?_ (IsS111.ge HI0.out)) | exact HB.out), by repeat (first | (with_reducible first | exact HK.out | apply KeepBut.set_ | apply keep_drewN | apply keep_drew | apply keep_alloc) | exact HK.out)⟩
                  · rw [if_neg c19] at H
                    exact absurd H (by simp)
                · rw [if_neg c18] at H
                  exact absurd H (by simp)
              · rw [if_neg c16] at H
                exact absurd H (by simp)
            · rw [if_neg c15] at H
              exact absurd H (by simp)

end Go.Proofs.Ytibkljplegpcdaa.QFnListBoth
