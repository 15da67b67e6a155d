-- Written by wip/tools/mk.py (this session's program, which runs the kit's print): functions, and proofs that the machine's calls do what they say.
import Derived.Test.YtfipeogppcllnaaQFnExactBlockOkx0
import Derived.Test.YtfipeogppcllnaaQFnExactBlockOkx4
import Derived.Test.YtfipeogppcllnaaQFnExactBlockOkx5
namespace Go.Proofs.Ytfipeogppcllnaa.QFnExactBlockOk
open Go.RowKit Go.Proofs.YtfipeogppcllnaaW.PrintWords Go.Proofs.YtfipeogppcllnaaW.PrintLast Go.Proofs.YtfipeogppcllnaaW.PrintMore
attribute [local go_sem] IntKind.wrap_u8 max2_int min2_int max_two min_two max_three min_three max_four min_four   -- for this text's walks alone
set_option linter.unusedVariables false
set_option linter.unusedSimpArgs false

/-! ### impl_Row: function 70 -/
set_option maxHeartbeats 2000000 in
set_option maxRecDepth 100000 in
theorem indexRow.calls {α : Type} (d : Kd α) (dz : α) (hsz : d.sz = 2) (g : Nat) (cap : Array Value) (fn : Func) (hf : Try.prog.funcs[g]? = some fn) (hname : (fn.name == "runtime.NumGoroutine") = false) (hbody : fn.body.isSome = true) (P : α → Bool)
    (A0 : Option Addr) (c0 : Nat) (l0 : List α) (w : World) (hg : ∀ x ∈ l0, ∀ cs, cs.length = 2 → d.K w x cs → ∀ (W : World), Below w.heap.size w W → Calls Try.prog g (#[(.agg cs.toArray)] ++ cap) W fun e w' => e = .returned (.bool (P x)) ∧ Below W.heap.size W w')
    (hr0 : Kd.C d w A0 l0.length l0) (hc0 : l0.length ≤ c0) (hN : l0.length < 9223372036854775807) :
    Calls Try.prog 86 #[.slice A0 l0.length c0, .func (.func g) #[] cap] w fun e w' => (∃ j : Int, e = .returned (.int .i64 j) ∧ decide (0 ≤ j) = l0.any P) ∧ Below w.heap.size w w' := by
  obtain ⟨r, hr⟩ : ∃ r, l0.any P = r := ⟨_, rfl⟩
  rw [hr]
  have HR := Aside0.mk hr
  have HG := Aside0.mk hg
  have HF := Aside0.mk hf
  have HNM := Aside0.mk hname
  have HY := Aside0.mk hbody
  have HR0 := Aside0.mk hr0
  have HSZ := Aside0.mk hsz
  have hu := Try.underlying107
  clear hr hg hf hname hbody hr0 hc0 hsz
  go_enter Try.func86, Try.ntmps86
  go_wp2
  go_loopw [8] (fun v wr => ∃ k : Nat, k ≤ l0.length ∧ v = .int .i64 k ∧ Aside0 (r = (l0.drop k).any P) ∧ Aside0 (Below w.heap.size w wr)) (fun v _ => l0.length - (intOf v).toNat)
  case atStart => exact ⟨0, Nat.zero_le _, rfl, ⟨by rw [List.drop_zero]; exact HR.out.symm⟩, ⟨Below.refl _ _⟩⟩
  case round =>
    clear HR
    obtain ⟨k, hk, rfl, HA, HD⟩ := hrel
    by_cases hlt : k < l0.length
    · have c0b : decide ((k : Int) < (l0.length : Int)) = true := decide_eq_true (by omega)
      obtain ⟨ad, c, e, hl, hK, hcell⟩ := ReadsRow.get_ HR0.out dz (k : Int) (by omega) (by omega)
      cases e
      have e1 : (k : Int).toNat = k := by omega
      rw [HSZ.out] at hl
      obtain ⟨x0, x1, rfl⟩ : ∃ x0 x1, c = [x0, x1] := by
        match c, hl with | [x0, x1], _ => exact ⟨x0, x1, rfl⟩
      rw [e1] at hK
      have hx0 : w.cell? (ad.add (k * 2)) = some x0 := by
        have h_ := hcell 0 x0 rfl
        rw [HSZ.out, e1] at h_
        exact h_
      replace hx0 := (HD.out.cell (World.block_lt_of_cell? w _ hx0)).trans hx0
      have hx1 : w.cell? ⟨(ad.add (k * 2)).block, (ad.add (k * 2)).off + 1, none⟩ = some x1 := by
        have h_ := hcell 1 x1 rfl
        rw [HSZ.out, e1] at h_
        rw [← add_field _ _ 1 (by omega)]
        exact h_
      replace hx1 := (HD.out.cell (World.block_lt_of_cell? w _ hx1)).trans hx1
      have hmem : l0.getD k dz ∈ l0 := by simp [List.getD, hlt]
      have E := Aside0.mk (any_step P l0 dz k hlt)
      have CALL := Aside0.mk (HG.out _ hmem [x0, x1] rfl hK _ HD.out)
      clear e1 hmem hK hcell hl
      obtain ⟨x, hx⟩ : ∃ x, l0.getD k dz = x := ⟨_, rfl⟩
      rw [hx] at CALL E
      clear hx
      have p : (0 ≤ (k : Int)) = True := eq_true (by omega)
      have q : ((k : Int) < (l0.length : Int)) = True := eq_true (by omega)
      cases hP : P x
      · have HP := Aside0.mk hP
        clear hP
        rw [HP.out] at CALL
        go_wp2_with (refine goesV_ (some 16) rfl rfl rfl rfl HF.out HNM.out HY.out (#[.agg #[x0, x1]] ++ cap) (by simp only [List.map_toArray, List.map_cons, List.map_nil]; rfl) ?_; refine CALL.out.mono ?_; rintro e w' ⟨rfl, hb⟩; refine ⟨_, rfl, ?_⟩; have HB := Aside0.mk hb; clear hb)
        go_roundw
        case rel => exact ⟨k + 1, by omega, by go_num, ⟨by rw [HA.out, E.out, HP.out]; rfl⟩, ⟨below_step HD.out HB.out⟩⟩
        case measure => simp [intOf]; omega
      · have HP := Aside0.mk hP
        clear hP
        rw [HP.out] at CALL
        go_wp2_with (refine goesV_ (some 16) rfl rfl rfl rfl HF.out HNM.out HY.out (#[.agg #[x0, x1]] ++ cap) (by simp only [List.map_toArray, List.map_cons, List.map_nil]; rfl) ?_; refine CALL.out.mono ?_; rintro e w' ⟨rfl, hb⟩; refine ⟨_, rfl, ?_⟩; have HB := Aside0.mk hb; clear hb)
        go_ret
        exact ⟨⟨_, rfl, by rw [HA.out, E.out, HP.out]; simp⟩, below_step HD.out HB.out⟩
    · have c0b : decide ((k : Int) < (l0.length : Int)) = false := decide_eq_false (by omega)
      have E := Aside0.mk (show (l0.drop k).any P = false by rw [List.drop_eq_nil_of_le (by omega)]; rfl)
      go_wp2
      go_ret
      exact ⟨⟨_, rfl, by rw [HA.out, E.out]; rfl⟩, HD.out⟩
set_option maxHeartbeats 2000000 in
set_option maxRecDepth 100000 in
theorem containsRow.calls {α : Type} (d : Kd α) (dz : α) (hsz : d.sz = 2) (g : Nat) (cap : Array Value) (fn : Func) (hf : Try.prog.funcs[g]? = some fn) (hname : (fn.name == "runtime.NumGoroutine") = false) (hbody : fn.body.isSome = true) (P : α → Bool)
    (A0 : Option Addr) (c0 : Nat) (l0 : List α) (w : World) (hg : ∀ x ∈ l0, ∀ cs, cs.length = 2 → d.K w x cs → ∀ (W : World), Below w.heap.size w W → Calls Try.prog g (#[(.agg cs.toArray)] ++ cap) W fun e w' => e = .returned (.bool (P x)) ∧ Below W.heap.size W w')
    (hr0 : Kd.C d w A0 l0.length l0) (hc0 : l0.length ≤ c0) (hN : l0.length < 9223372036854775807) :
    Calls Try.prog 70 #[.slice A0 l0.length c0, .func (.func g) #[] cap] w fun e w' => e = .returned (.bool (l0.any P)) ∧ Below w.heap.size w w' := by
  have C := Aside0.mk (indexRow.calls d dz hsz g cap fn hf hname hbody P A0 c0 l0 w hg hr0 hc0 hN)
  clear hg hf hname hbody hr0
  obtain ⟨r, hr⟩ : ∃ r, l0.any P = r := ⟨_, rfl⟩
  obtain ⟨n0, hn0⟩ : ∃ n, l0.length = n := ⟨_, rfl⟩
  rw [hr, hn0] at C
  rw [hr, hn0]
  clear hr hn0 hc0 hN
  go_enter Try.func70, Try.ntmps70
  go_wp2_with (refine goesL_ (some 7) rfl rfl Try.func86 (by kernel_rfl) rfl #[.slice A0 n0 c0, .func (.func g) #[] cap] rfl (by simp only [List.map_toArray, List.map_cons, List.map_nil]; rfl) ?_; refine C.out.mono ?_; rintro e w' ⟨⟨j, rfl, hj⟩, hb⟩; refine ⟨_, rfl, ?_⟩)
  go_ret
  exact ⟨rfl, hb⟩

/-! ### impl_Sample_98: function 98 -/
set_option maxHeartbeats 2000000 in
set_option maxRecDepth 100000 in
theorem indexSmp.calls (base : Nat) (w0 : World) (g : Nat) (cap : Array Value) (fn : Func) (hf : Try.prog.funcs[g]? = some fn) (hname : (fn.name == "runtime.NumGoroutine") = false) (hbody : fn.body.isSome = true) (P : Smp → Bool)
    (A0 : Option Addr) (c0 : Nat) (l0 : List Smp) (w : World) (hbase : base ≤ w.heap.size) (hw : Below base w0 w) (hg : ∀ x ∈ l0, ∀ (W : World), Below base w0 W → Calls Try.prog g (#[smpA x] ++ cap) W fun e w' => e = .returned (.bool (P x)) ∧ Below W.heap.size W w')
    (hr0 : Kd.C k87 w A0 l0.length l0) (hN : l0.length < 9223372036854775807) :
    Calls Try.prog 98 #[.slice A0 l0.length c0, .func (.func g) #[] cap] w fun e w' => (∃ j : Int, e = .returned (.int .i64 j) ∧ FstP P l0 j) ∧ Below w.heap.size w w' := by
  have HG := Aside0.mk hg
  have HW := Aside0.mk hw
  have HF := Aside0.mk hf
  have HNM := Aside0.mk hname
  have HY := Aside0.mk hbody
  have HR0 := Aside0.mk hr0
  have HBS := Aside0.mk hbase
  have hu := Try.underlying87
  clear hg hf hname hbody hr0 hbase hw
  go_enter Try.func98, Try.ntmps98
  go_wp2
  go_loopw [8] (fun v wr => ∃ k : Nat, k ≤ l0.length ∧ v = .int .i64 k ∧ Aside0 (((l0.take k).filter fun x => !P x) = l0.take k) ∧ Aside0 (Below w.heap.size w wr)) (fun v _ => l0.length - (intOf v).toNat)
  case atStart => exact ⟨0, Nat.zero_le _, rfl, ⟨rfl⟩, ⟨Below.refl _ _⟩⟩
  case round =>
    obtain ⟨k, hk, rfl, HA, HD⟩ := hrel
    by_cases hlt : k < l0.length
    · have c0b : decide ((k : Int) < (l0.length : Int)) = true := decide_eq_true (by omega)
      obtain ⟨ad, e, hx0, hx1⟩ := at_T87 HR0.out (k : Int) (by omega) (by omega)
      cases e
      have e1 : (k : Int).toNat = k := by omega
      have e2 : rd_T87 l0 (k : Int) = l0.getD k z87 := by unfold rd_T87; rw [e1]
      rw [e1, e2] at hx0 hx1
      replace hx0 := (HD.out.cell (World.block_lt_of_cell? w _ hx0)).trans hx0
      replace hx1 := (HD.out.cell (World.block_lt_of_cell? w _ hx1)).trans hx1
      have hmem : l0.getD k z87 ∈ l0 := by simp [List.getD, hlt]
      have CL := Aside0.mk (HG.out _ hmem wr (HW.out.trans (HD.out.mono HBS.out)))
      have E := Aside0.mk (filter_take_no P l0 z87 k hlt)
      have E2 := Aside0.mk (take_snoc l0 z87 k hlt)
      have HLT := Aside0.mk hlt
      clear e1 e2 hmem
      obtain ⟨x, hx⟩ : ∃ x, l0.getD k z87 = x := ⟨_, rfl⟩
      rw [hx] at hx0 hx1 CL E E2
      have HX := Aside0.mk hx
      clear hx
      have p : (0 ≤ (k : Int)) = True := eq_true (by omega)
      have q : ((k : Int) < (l0.length : Int)) = True := eq_true (by omega)
      cases hP : P x
      · have HP := Aside0.mk hP
        clear hP
        go_wp2_with (refine goesV_ (some 16) rfl rfl rfl rfl HF.out HNM.out HY.out (#[smpA x] ++ cap) (by simp only [List.map_toArray, List.map_cons, List.map_nil]; rfl) ?_; refine CL.out.mono ?_; rintro e w' ⟨rfl, hb⟩; rw [HP.out]; refine ⟨_, rfl, ?_⟩; have HB := Aside0.mk hb; clear hb)
        go_roundw
        case rel => exact ⟨k + 1, by omega, by go_num, ⟨by rw [E.out HP.out, HA.out, E2.out]⟩, ⟨below_step HD.out HB.out⟩⟩
        case measure => simp [intOf]; omega
      · have HP := Aside0.mk hP
        clear hP
        go_wp2_with (refine goesV_ (some 16) rfl rfl rfl rfl HF.out HNM.out HY.out (#[smpA x] ++ cap) (by simp only [List.map_toArray, List.map_cons, List.map_nil]; rfl) ?_; refine CL.out.mono ?_; rintro e w' ⟨rfl, hb⟩; rw [HP.out]; refine ⟨_, rfl, ?_⟩; have HB := Aside0.mk hb; clear hb)
        go_ret
        exact ⟨⟨_, rfl, .inr ⟨k, HLT.out, rfl, by rw [HX.out]; exact HP.out, HA.out⟩⟩, below_step HD.out HB.out⟩
    · have c0b : decide ((k : Int) < (l0.length : Int)) = false := decide_eq_false (by omega)
      have E := Aside0.mk (show l0.take k = l0 from List.take_of_length_le (by omega))
      go_wp2
      go_ret
      exact ⟨⟨_, rfl, .inl ⟨rfl, by have h_ := HA.out; rwa [E.out] at h_⟩⟩, HD.out⟩

/-! ### impl_Sample_87: function 87 -/
set_option maxHeartbeats 4000000 in
set_option maxRecDepth 100000 in
theorem deleteSmp.calls (base : Nat) (w0 : World) (g : Nat) (cap : Array Value) (fn : Func) (hf : Try.prog.funcs[g]? = some fn) (hname : (fn.name == "runtime.NumGoroutine") = false) (hbody : fn.body.isSome = true) (P : Smp → Bool)
    (v : Value) (l0 : List Smp) (w : World) (hbase : base ≤ w.heap.size) (hw : Below base w0 w) (hg : ∀ x ∈ l0, ∀ (W : World), Below base w0 W → Calls Try.prog g (#[smpA x] ++ cap) W fun e w' => e = .returned (.bool (P x)) ∧ Below W.heap.size W w')
    (hr0 : Kd.R k87 87 w base (fun _ => True) v l0) (hN : l0.length < 9223372036854775807) :
    Calls Try.prog 87 #[v, .func (.func g) #[] cap] w fun e w' => (∃ v', e = .returned v' ∧ Kd.R k87 87 w' base (fun _ => True) v' (l0.filter fun x => !P x)) ∧ Below base w0 w' := by
  obtain ⟨A0, c0, rfl, hc0, hC⟩ := Kd.R_reads hr0
  have CI := Aside0.mk (indexSmp.calls base w0 g cap fn hf hname hbody P A0 c0 l0 w hbase hw hg hC hN)
  have HFM : ∀ j : Nat, j < l0.length → Aside0 (∃ gb, A0 = some ⟨gb, 0, none⟩) := fun j hj => by
    obtain ⟨gb, cp, e, _⟩ := Kd.R_form hr0 (by omega)
    injection e with e1
    exact ⟨⟨gb, e1⟩⟩
  have HG := Aside0.mk hg
  have HW := Aside0.mk hw
  have HF := Aside0.mk hf
  have HNM := Aside0.mk hname
  have HY := Aside0.mk hbody
  have HR0 := Aside0.mk hr0
  have HBS := Aside0.mk hbase
  have hu := Try.underlying87
  clear hg hf hname hbody hr0 hbase hw hC
  have CI2 : Calls Try.prog 98 #[.slice A0 l0.length c0, .func (.func g) #[] cap] w fun e w' => (∃ j : Int, e = .returned (.int .i64 j) ∧ (j = -1 ∨ ∃ k : Nat, k < l0.length ∧ j = (k : Int)) ∧ Aside0 (FstP P l0 j)) ∧ Aside0 (Below w.heap.size w w') := CI.out.mono (by
    rintro e w' ⟨⟨j, rfl, hj⟩, hb⟩
    refine ⟨⟨j, rfl, ?_, ⟨hj⟩⟩, ⟨hb⟩⟩
    rcases hj with hj | ⟨k, h1, h2, _⟩
    · exact .inl hj.1
    · exact .inr ⟨k, h1, h2⟩)
  clear CI
  have CI := Aside0.mk CI2
  clear CI2
  go_enter Try.func87, Try.ntmps87
  obtain ⟨n0, hn0⟩ : ∃ n, l0.length = n := ⟨_, rfl⟩
  rw [hn0] at CI hc0 HFM
  simp only [hn0]
  have HN0 := Aside0.mk hn0
  go_wp2_with (refine goesL_ (some 10) rfl rfl Try.func98 (by kernel_rfl) rfl #[.slice A0 n0 c0, .func (.func g) #[] cap] rfl (by simp only [List.map_toArray, List.map_cons, List.map_nil]; rfl) ?_; refine CI.out.mono ?_; rintro e w1 ⟨⟨j, rfl, hj, HJ⟩, HB1⟩; refine ⟨_, rfl, ?_⟩; clear CI)
  · rename_i hT
    obtain rfl : j = -1 := beq_iff_eq.mp hT
    have HJ2 := Aside0.mk (show (l0.filter fun x => !P x) = l0 by
      rcases HJ.out with h | ⟨k, _, h, _⟩
      · exact h.2
      · omega)
    clear HJ
    go_wp2
    go_ret
    exact ⟨⟨_, rfl, by rw [HJ2.out, ← HN0.out]; exact Kd.R_below HR0.out HB1.out⟩, HW.out.trans (HB1.out.mono HBS.out)⟩
  have hT : ¬ ((j == -1) = true) := by first | assumption | (simp only [Bool.not_eq_true]; assumption)
  obtain ⟨i0, hi0, rfl⟩ : ∃ k : Nat, k < n0 ∧ j = (k : Int) := by
    rcases hj with rfl | h
    · exact absurd rfl hT
    · exact h
  clear hT hj
  have HJ2 := Aside0.mk (show P (l0.getD i0 z87) = true ∧ ((l0.take i0).filter fun x => !P x) = l0.take i0 by
    rcases HJ.out with h | ⟨k, _, h, h2⟩
    · omega
    · have : k = i0 := by omega
      subst this
      exact h2)
  obtain ⟨gb, rfl⟩ := (HFM i0 hi0).out
  have wrap_up : ∀ {k : Nat}, k < 9223372036854775807 → Value.int .i64 (wrap64 ((k : Int) + 1)) = .int .i64 ((k + 1 : Nat) : Int) := fun {k} h => by
    congr 1
    unfold wrap64
    omega
  clear HJ HFM
  go_wp2
  go_loopg [5, 6] (n0 - (i0 + 1)) (fun m v5 v6 wr => ∃ i k : Nat, ∃ ys : List Smp, m = n0 - k ∧ v5 = .int .i64 i ∧ v6 = .int .i64 k ∧ i < k ∧ k ≤ n0 ∧ Aside0 (ys.length = n0) ∧ Aside0 (ys.take i = ((l0.take k).filter fun x => !P x)) ∧ Aside0 (ys.drop k = l0.drop k) ∧ Aside0 (Kd.R k87 87 wr base (fun _ => True) (.slice (some ⟨gb, 0, none⟩) n0 c0) ys) ∧ Aside0 (Below base w0 wr) ∧ Aside0 (base ≤ wr.heap.size))
  case atStart => exact ⟨i0, i0 + 1, l0, rfl, rfl, (by rw [wrap_up (by omega)]), by omega, by omega, HN0, ⟨by rw [filter_take_yes P l0 z87 i0 (by rw [HN0.out]; exact hi0) HJ2.out.1, HJ2.out.2]⟩, ⟨rfl⟩, ⟨by rw [← HN0.out]; exact Kd.R_below HR0.out HB1.out⟩, ⟨HW.out.trans (HB1.out.mono HBS.out)⟩, ⟨Nat.le_trans HBS.out HB1.out.size⟩⟩
  case round =>
    clear HB1 HJ2
    obtain ⟨i, k, ys, rfl, rfl, rfl, hik, hk, HL, HT, HD, HO, HB, HS⟩ := hrel
    by_cases hlt : k < n0
    · have c0b : decide ((k : Int) < (n0 : Int)) = true := decide_eq_true (by omega)
      obtain ⟨hl1, hl2, hCy⟩ := Kd.R_reads' HO.out
      obtain ⟨ad, e, hx0, hx1⟩ := at_T87 hCy (k : Int) (by omega) (by rw [HL.out]; omega)
      cases e
      have e1 : (k : Int).toNat = k := by omega
      have e2 : rd_T87 ys (k : Int) = ys.getD k z87 := by unfold rd_T87; rw [e1]
      have e3 : ys.getD k z87 = l0.getD k z87 := by
        have h1 : (ys.drop k)[0]? = (l0.drop k)[0]? := by rw [HD.out]
        rw [List.getElem?_drop, List.getElem?_drop] at h1
        simpa [List.getD] using congrArg (fun o => o.getD z87) h1
      rw [e1, e2, e3] at hx0 hx1
      simp only [add_plain] at hx0 hx1
      have hmem : l0.getD k z87 ∈ l0 := by simp [List.getD, HN0.out, hlt]
      have CL := Aside0.mk (HG.out _ hmem)
      have EN := Aside0.mk (filter_take_no P l0 z87 k (by rw [HN0.out]; exact hlt))
      have EY := Aside0.mk (filter_take_yes P l0 z87 k (by rw [HN0.out]; exact hlt))
      clear e1 e2 e3 hmem hl1 hl2 hCy
      obtain ⟨x, hx⟩ : ∃ x, l0.getD k z87 = x := ⟨_, rfl⟩
      rw [hx] at hx0 hx1 CL EN EY
      clear hx
      have p : (0 ≤ (k : Int)) = True := eq_true (by omega)
      have q : ((k : Int) < (n0 : Int)) = True := eq_true (by omega)
      have KS := Aside0.mk (show ∀ m : Nat, (i + 1 ≤ ys.length → (ys.set i x).take (i + 1) = ys.take i ++ [x]) ∧ (ys.set i x).drop (k + 1) = ys.drop (k + 1) ∧ ys.drop (k + 1) = l0.drop (k + 1) from fun _ => ⟨fun hi => by rw [List.take_succ_eq_append_getElem (by rw [List.length_set]; omega), List.getElem_set_self, List.take_set_of_le (Nat.le_refl _)], by rw [List.drop_set_of_lt (by omega)], by rw [← List.drop_drop, HD.out, List.drop_drop]⟩)
      have EL := Aside0.mk (show ∀ (W : World) (cs : Array Value), Below base w0 (wr.alloc (.cells cs 87)) from fun W cs => HB.out.alloc HS.out _)
      cases hP : P x
      · have HP := Aside0.mk hP
        clear hP
        go_wp2_with (first
          | (refine goesV_ (some 28) rfl rfl rfl rfl HF.out HNM.out HY.out (#[smpA x] ++ cap) (by simp only [List.map_toArray, List.map_cons, List.map_nil]; rfl) ?_; refine (CL.out _ (EL.out wr _)).mono ?_; rintro e w' ⟨rfl, hb⟩; rw [HP.out]; refine ⟨_, rfl, ?_⟩; have b_ := blk_below (blk_new wr (Obj.cells #[.int .i64 x.f0, .int .i64 x.f1] 87)) hb; have d0 : w'.cell? ⟨wr.heap.size, 0, none⟩ = some (.int .i64 x.f0) := blk_cell b_ 0; have d1 : w'.cell? ⟨wr.heap.size, 1, none⟩ = some (.int .i64 x.f1) := blk_cell b_ 1; have HO2 := Aside0.mk (Kd.R_below (Kd.R_alloc HO.out _) hb); have HB2 := Aside0.mk ((EL.out wr _).trans (hb.mono (Nat.le_trans HS.out (Nat.le_trans (Nat.le_succ _) (by simp))))); have HS2 := Aside0.mk (Nat.le_trans HS.out (Nat.le_trans (show wr.heap.size ≤ (wr.alloc (.cells #[.int .i64 x.f0, .int .i64 x.f1] 87)).heap.size by simp) hb.size)); clear hb b_)
          | (refine store_smp base rfl rfl _ _ rfl (g := gb) i ys x ?ha ?hx HO2.out (by omega) HB2.out ?_
             case ha => first | rfl | (go_simp; done) | (go_simp; rfl)
             case hx => first | rfl | (go_simp; done) | (go_simp; rfl)
             intro w2 ho2 hb2 hs2
             have HO3 := Aside0.mk ho2
             have HB3 := Aside0.mk hb2
             have HS3 := Aside0.mk (Nat.le_trans HS2.out hs2)
             clear ho2 hb2 hs2 HO2 HB2 HS2 d0 d1))
        go_roundg (n0 - (k + 1))
        case rel => exact ⟨i + 1, k + 1, ys.set i x, rfl, by go_num, by go_num, by omega, by omega, ⟨by rw [List.length_set]; exact HL.out⟩, ⟨by rw [(KS.out 0).1 (by rw [HL.out]; omega), HT.out, EN.out HP.out]⟩, ⟨by rw [(KS.out 0).2.1, (KS.out 0).2.2]⟩, HO3, HB3, HS3⟩
        case measure => omega
      · have HP := Aside0.mk hP
        clear hP
        go_wp2_with (refine goesV_ (some 28) rfl rfl rfl rfl HF.out HNM.out HY.out (#[smpA x] ++ cap) (by simp only [List.map_toArray, List.map_cons, List.map_nil]; rfl) ?_; refine (CL.out _ (EL.out wr _)).mono ?_; rintro e w' ⟨rfl, hb⟩; rw [HP.out]; refine ⟨_, rfl, ?_⟩; have HO2 := Aside0.mk (Kd.R_below (Kd.R_alloc HO.out _) hb); have HB2 := Aside0.mk ((EL.out wr _).trans (hb.mono (Nat.le_trans HS.out (Nat.le_trans (Nat.le_succ _) (by simp))))); have HS2 := Aside0.mk (Nat.le_trans HS.out (Nat.le_trans (show wr.heap.size ≤ (wr.alloc (.cells #[.int .i64 x.f0, .int .i64 x.f1] 87)).heap.size by simp) hb.size)); clear hb)
        go_roundg (n0 - (k + 1))
        case rel => exact ⟨i, k + 1, ys, rfl, by go_num, by go_num, by omega, by omega, HL, ⟨by rw [HT.out, EY.out HP.out]⟩, ⟨by rw [(KS.out 0).2.2]⟩, HO2, HB2, HS2⟩
        case measure => omega
    · have c0b : decide ((k : Int) < (n0 : Int)) = false := decide_eq_false (by omega)
      have E := Aside0.mk (show l0.take k = l0 from List.take_of_length_le (by omega))
      have HI := Aside0.mk (show k = n0 by omega)
      go_wp2_with (refine clear_smp base rfl rfl _ rfl (g := gb) i ys ?hx HO.out (by omega) HB.out ?_; (case hx => first | rfl | (go_simp; done) | (go_simp; rfl)); intro w2 ho2 hb2; have HO2 := Aside0.mk ho2; have HB2 := Aside0.mk hb2; clear ho2 hb2)
      go_ret
      exact ⟨⟨_, rfl, by have h_ := HO2.out; rw [HT.out, HI.out, ← HN0.out, List.take_length] at h_; exact h_⟩, HB2.out⟩

/-! ### impl_Sample_88: function 88 -/
set_option maxHeartbeats 4000000 in
set_option maxRecDepth 100000 in
theorem cloneSmp.calls (A0 : Option Addr) (c0 : Nat) (l0 : List Smp) (w : World) (hr0 : Kd.C k87 w A0 l0.length l0) (hN : l0.length ≤ 1048576) :
    Calls Try.prog 88 #[.slice A0 l0.length c0] w fun e w' => (∃ v', e = .returned v' ∧ Kd.R k87 87 w' w.heap.size (fun _ => True) v' l0) ∧ Below w.heap.size w w' := by
  have HR0 := Aside0.mk hr0
  have hu := Try.underlying87
  have hLen := (hr0 : ReadsRow _ _ _ _ _ _).1
  clear hr0
  obtain ⟨n0, hn0⟩ : ∃ n, l0.length = n := ⟨_, rfl⟩
  rw [hn0] at HR0 hN
  rw [hn0]
  have HN0 := Aside0.mk hn0
  clear hn0 hLen
  cases A0 with
  | none =>
    obtain rfl : n0 = 0 := by
      rcases Nat.eq_zero_or_pos n0 with h | h
      · exact h
      · obtain ⟨ad, e, _⟩ := at_T87 HR0.out 0 (by omega) (by omega)
        cases e
    have he : ∀ W : World, (Sem.run Try.prog (binOp .eql 88 (.slice none 0 c0) (.slice none 0 0)) W) = .ok (.bool true) W := fun W => Lib.run_eql_slice_nil W 88 87 none 0 c0 0 0 Try.underlying88
    go_enter Try.func88, Try.ntmps88
    go_wp2
    go_ret
    have hl : l0 = [] := List.length_eq_zero_iff.mp HN0.out
    subst hl
    exact ⟨⟨_, rfl, Kd.R_nil _ _ _ _ _⟩, Below.refl _ _⟩
  | some ad =>
    have he : ∀ W : World, (Sem.run Try.prog (binOp .eql 88 (.slice (some ad) n0 c0) (.slice none 0 0)) W) = .ok (.bool false) W := fun W => Lib.run_eql_slice_nil W 88 87 (some ad) n0 c0 0 0 Try.underlying88
    go_enter Try.func88, Try.ntmps88
    go_wp2_with (first
      | (refine Kd.R_lit k87 _ 87 ?hg (N := 5) ?hd (xs := ([] : List Smp)) (inner := []) (ok := fun _ => True) (okp := fun _ => True) ?hr ?hp (fun _ hk => hk) trivial (Below.refl _ _) (Nat.le_refl _) (by simp) ?_; (case hd => rfl); (case hg => rfl); (case hr => first | (go_simp; done) | (go_simp; rfl)); (case hp => exact (Reps.none _ _)); intro v4 w4 ho4 hb4 hg4 hnew4; have HO4 := Aside0.mk ho4; have HB4 := Aside0.mk hb4; clear hg4 hnew4 ho4 hb4)
      | (refine Kd.R_append_rows k87 (w0 := w) w.heap.size rfl _ _ 88 87 (.agg #[.int .i64 0, .int .i64 0]) 16 rfl Try.underlying88 info87 rfl (by decide) (by decide) v4 [] l0 (some ad) n0 c0 (fun _ => True) (fun _ => False) ?hs ?hx HO4.out (Kd.C_below HR0.out HB4.out) (fun _ _ h => h) (fun _ h => h.elim) (fun _ _ => trivial) HB4.out HB4.out.size ?hl ?_
         case hs => first | rfl | (go_simp; done) | (go_simp; rfl)
         case hx => first | rfl | (go_simp; done) | (go_simp; rfl)
         case hl => simp only [List.length_nil]; omega
         intro v5 w5 ho5 hb5 _ _
         have HO5 := Aside0.mk ho5
         have HB5 := Aside0.mk hb5
         clear ho5 hb5))
    go_ret
    exact ⟨⟨_, rfl, by have h_ := HO5.out; rwa [List.nil_append] at h_⟩, HB5.out⟩

/-! ### impl_cut: function 72 -/
def impl_cut.f (l0 : List Smp) (a b : Int) : Option (List Smp) := if l0.length ≤ 1048576 then some (cutL l0 a b) else none
set_option maxHeartbeats 4000000 in
set_option maxRecDepth 100000 in
theorem cutFn.calls (ga gb : Nat) (a b : Int) (x : Smp) (w : World) (h0 : w.cell? ⟨ga, 0, none⟩ = some (.int .i64 a)) (h1 : w.cell? ⟨gb, 0, none⟩ = some (.int .i64 b)) :
    Calls Try.prog 89 (#[smpA x] ++ #[.pointer (some ⟨ga, 0, none⟩), .pointer (some ⟨gb, 0, none⟩)]) w fun e w' => e = .returned (.bool (cutP a b x)) ∧ Below w.heap.size w w' := by
  obtain ⟨x0, x1⟩ := x
  have hu := Try.underlying87
  have HB := Aside0.mk ((Below.refl w.heap.size w).alloc (Nat.le_refl _) (.cells #[.int .i64 x0, .int .i64 x1] 87))
  replace h0 := (HB.out.cell (World.block_lt_of_cell? w _ h0)).trans h0
  replace h1 := (HB.out.cell (World.block_lt_of_cell? w _ h1)).trans h1
  show Calls Try.prog 89 #[.agg #[.int .i64 x0, .int .i64 x1], .pointer (some ⟨ga, 0, none⟩), .pointer (some ⟨gb, 0, none⟩)] w fun e w' => e = .returned (.bool (decide (x0 < a) || decide (b ≤ x0))) ∧ Below w.heap.size w w'
  cases hA : decide (x0 < a)
  · cases hB : decide (b ≤ x0)
    · go_enter Try.func89, Try.ntmps89
      go_wp2
      go_ret
      exact ⟨rfl, HB.out⟩
    · go_enter Try.func89, Try.ntmps89
      go_wp2
      go_ret
      exact ⟨rfl, HB.out⟩
  · go_enter Try.func89, Try.ntmps89
    go_wp2
    go_ret
    exact ⟨rfl, HB.out⟩
set_option maxHeartbeats 4000000 in
set_option maxRecDepth 100000 in
theorem impl_cut.calls (A0 : Option Addr) (c0 : Nat) (l0 : List Smp) (a1 a2 : Int) (r : List Smp) (w : World) (hr0 : Kd.C k87 w A0 l0.length l0) (hc0 : l0.length ≤ c0) (h : impl_cut.f l0 a1 a2 = some r) :
    Calls Try.prog 72 #[.slice A0 l0.length c0, .int .i64 a1, .int .i64 a2] w fun e w' => ∃ v0_ : Value, e = .returned (v0_) ∧ Kd.R k87 87 w' w.heap.size (fun _ => True) v0_ r ∧ Below w.heap.size w w' := by
  unfold impl_cut.f at h
  split at h
  case isFalse => cases h
  case isTrue hs =>
  have HRr := Aside0.mk (Option.some.inj h)
  clear h
  obtain ⟨W2, hW2⟩ : ∃ W2, (w.alloc (.cells #[.int .i64 a1] 3)).alloc (.cells #[.int .i64 a2] 3) = W2 := ⟨_, rfl⟩
  have hB2 : Below w.heap.size w W2 := by rw [← hW2]; exact ((Below.refl w.heap.size w).alloc (Nat.le_refl _) _).alloc (by simp) _
  have hS2 : w.heap.size + 2 = W2.heap.size := by rw [← hW2]; simp
  have hA2 : W2.heap[w.heap.size]? = some (.cells #[.int .i64 a1] 3 (0, 0)) := by rw [← hW2]; exact (Below.heap_alloc _ _ _ (by simp)).trans (blk_new w _)
  have hA3 : W2.heap[w.heap.size + 1]? = some (.cells #[.int .i64 a2] 3 (0, 0)) := by
    rw [← hW2]
    have h_ := blk_new (w.alloc (.cells #[.int .i64 a1] 3)) (.cells #[.int .i64 a2] 3)
    simpa using h_
  have C1 := Aside0.mk (cloneSmp.calls A0 c0 l0 W2 (Kd.C_below hr0 hB2) hs)
  have HM := Aside0.mk (fun (W : World) (hb : Below W2.heap.size W2 W) (x : Smp) => cutFn.calls w.heap.size (w.heap.size + 1) a1 a2 x W (blk_cell (blk_below hA2 hb) 0) (blk_cell (blk_below hA3 hb) 0))
  have C2 : Aside0 (∀ (W3 : World) (v : Value), Below W2.heap.size W2 W3 → Kd.R k87 87 W3 W2.heap.size (fun _ => True) v l0 → Calls Try.prog 87 #[v, .func (.func 89) #[] #[.pointer (some ⟨w.heap.size, 0, none⟩), .pointer (some ⟨w.heap.size + 1, 0, none⟩)]] W3 fun e w' => (∃ v', e = .returned v' ∧ Kd.R k87 87 w' W2.heap.size (fun _ => True) v' (l0.filter fun x => !cutP a1 a2 x)) ∧ Below W2.heap.size W2 w') := ⟨fun W3 v hb ho => deleteSmp.calls W2.heap.size W2 89 #[.pointer (some ⟨w.heap.size, 0, none⟩), .pointer (some ⟨w.heap.size + 1, 0, none⟩)] Try.f89 Try.func89 (by kernel_rfl) (by kernel_rfl) (cutP a1 a2) v l0 W3 hb.size hb (fun x _ W hW => HM.out W hW x) ho (by omega)⟩
  have HB2 := Aside0.mk hB2
  have HS2 := Aside0.mk (show w.heap.size ≤ W2.heap.size by omega)
  have HW2 := Aside0.mk hW2
  clear hr0 hs hB2 hS2 hA2 hA3 HM
  obtain ⟨n0, hn0⟩ : ∃ n, l0.length = n := ⟨_, rfl⟩
  rw [hn0] at C1
  rw [hn0]
  clear hn0 hc0
  go_enter Try.func72, Try.ntmps72
  go_wp2_with (first
    | ((with_reducible refine gate_dst (N := 8) rfl ?_); refine goesL_ (some 8) rfl rfl Try.func88 (by kernel_rfl) rfl #[.slice A0 n0 c0] rfl (by simp only [List.map_toArray, List.map_cons, List.map_nil]; rfl) ?_; (try rw [HW2.out]); refine C1.out.mono ?_; rintro e W3 ⟨⟨v3, rfl, ho3⟩, hb3⟩; refine ⟨_, rfl, ?_⟩; have C3 := Aside0.mk (C2.out W3 v3 hb3 ho3); clear ho3 hb3)
    | ((with_reducible refine gate_dst (N := 10) rfl ?_); refine goesL_ (some 10) rfl rfl Try.func87 (by kernel_rfl) rfl #[v3, .func (.func 89) #[] #[.pointer (some ⟨w.heap.size, 0, none⟩), .pointer (some ⟨w.heap.size + 1, 0, none⟩)]] rfl (by simp only [List.map_toArray, List.map_cons, List.map_nil]; rfl) ?_; refine C3.out.mono ?_; rintro e W4 ⟨⟨v4, rfl, ho4⟩, hb4⟩; refine ⟨_, rfl, ?_⟩; have HO4 := Aside0.mk ho4; have HB4 := Aside0.mk hb4; clear ho4 hb4))
  go_ret
  exact ⟨_, rfl, by rw [← HRr.out]; exact Kd.R_lower HO4.out HS2.out, HB2.out.trans (HB4.out.mono HS2.out)⟩

/-! ### impl_inside: function 43 -/
def impl_inside.f (l0 : List Rw) (a b : Int) : Option Bool := if bdI l0 = true then some (insideB l0 a b) else none
set_option maxHeartbeats 4000000 in
set_option maxRecDepth 100000 in
theorem insideOne.calls (ga gb : Nat) (a b : Int) (l : List Smp) (A0 B0 : Option Addr) (na c0 d0 : Nat) (w : World) (h0 : w.cell? ⟨ga, 0, none⟩ = some (.int .i64 a)) (h1 : w.cell? ⟨gb, 0, none⟩ = some (.int .i64 b)) (hr : Kd.C k87 w B0 l.length l) (hd : l.length ≤ d0) (hs : l.length ≤ 1048576) :
    Calls Try.prog 71 #[.agg #[.slice A0 na c0, .slice B0 l.length d0], .pointer (some ⟨ga, 0, none⟩), .pointer (some ⟨gb, 0, none⟩)] w fun e w' => e = .returned (.bool (decide ((cutL l a b).length < l.length))) ∧ Below w.heap.size w w' := by
  have hu := Try.underlying107
  have CC := Aside0.mk (show ∀ W, Below w.heap.size w W → Calls Try.prog 72 #[.slice B0 l.length d0, .int .i64 a, .int .i64 b] W fun e w' => (∃ A1 c1, e = .returned (.slice A1 (cutL l a b).length c1)) ∧ Below W.heap.size W w' from fun W hW => (impl_cut.calls B0 d0 l a b (cutL l a b) W (Kd.C_below hr hW) hd (by unfold impl_cut.f; rw [if_pos hs])).mono (by
    rintro e w' ⟨v, rfl, ho, hb⟩
    obtain ⟨A1, c1, rfl⟩ := Kd.R_slice ho
    exact ⟨⟨A1, c1, rfl⟩, hb⟩))
  clear hr hd hs
  obtain ⟨n0, hn0⟩ : ∃ n, l.length = n := ⟨_, rfl⟩
  obtain ⟨m0, hm0⟩ : ∃ n, (cutL l a b).length = n := ⟨_, rfl⟩
  rw [hn0, hm0] at CC
  rw [hn0, hm0]
  clear hn0 hm0
  obtain ⟨z, hz⟩ : ∃ z, decide (m0 < n0) = z := ⟨_, rfl⟩
  have hz2 : decide ((m0 : Int) < (n0 : Int)) = z := by rw [← hz]; exact decide_eq_decide.mpr (by omega)
  rw [hz]
  have KEEP : ∀ W w' : World, (W.cell? ⟨w.heap.size, 1, none⟩ = some (.slice B0 n0 d0) ∧ W.cell? ⟨ga, 0, none⟩ = some (.int .i64 a) ∧ W.cell? ⟨gb, 0, none⟩ = some (.int .i64 b) ∧ Below w.heap.size w W) → Below W.heap.size W w' → (w'.cell? ⟨w.heap.size, 1, none⟩ = some (.slice B0 n0 d0) ∧ w'.cell? ⟨ga, 0, none⟩ = some (.int .i64 a) ∧ w'.cell? ⟨gb, 0, none⟩ = some (.int .i64 b) ∧ Below w.heap.size w w') :=
    fun W w' ⟨a0, a1, a2, hB⟩ hb => ⟨(hb.cell (World.block_lt_of_cell? W _ a0)).trans a0, (hb.cell (World.block_lt_of_cell? W _ a1)).trans a1, (hb.cell (World.block_lt_of_cell? W _ a2)).trans a2, below_step hB hb⟩
  have HK := Aside0.mk KEEP
  have HB0 := ((Below.refl w.heap.size w).alloc (Nat.le_refl _) (.cells #[.slice A0 na c0, .slice B0 n0 d0] 107)).drew
  have HS0 := Aside0.mk (show ((w.alloc (.cells #[.slice A0 na c0, .slice B0 n0 d0] 107)).drew.cell? ⟨w.heap.size, 1, none⟩ = some (.slice B0 n0 d0) ∧ (w.alloc (.cells #[.slice A0 na c0, .slice B0 n0 d0] 107)).drew.cell? ⟨ga, 0, none⟩ = some (.int .i64 a) ∧ (w.alloc (.cells #[.slice A0 na c0, .slice B0 n0 d0] 107)).drew.cell? ⟨gb, 0, none⟩ = some (.int .i64 b) ∧ Below w.heap.size w (w.alloc (.cells #[.slice A0 na c0, .slice B0 n0 d0] 107)).drew) from ⟨blk_cell (blk_drew (blk_new w _)) 1, (HB0.cell (World.block_lt_of_cell? w _ h0)).trans h0, (HB0.cell (World.block_lt_of_cell? w _ h1)).trans h1, HB0⟩)
  clear KEEP HB0 h0 h1
  go_enter Try.func71, Try.ntmps71
  go_wp2_with fail
  go_region_held3 (fun W => W.cell? ⟨w.heap.size, 1, none⟩ = some (.slice B0 n0 d0) ∧ W.cell? ⟨ga, 0, none⟩ = some (.int .i64 a) ∧ W.cell? ⟨gb, 0, none⟩ = some (.int .i64 b) ∧ Below w.heap.size w W)
    (first | exact HS0.out | exact HK.out _ _ (by assumption) (by assumption))
    (first | (go_at_call 72; refine (CC.out _ (by simp_all)).mono ?_; rintro e w' ⟨⟨A1, c1, rfl⟩, hb⟩))
  go_wp2
  go_ret
  exact ⟨rfl, by simp_all⟩
set_option maxHeartbeats 4000000 in
set_option maxRecDepth 100000 in
theorem impl_inside.calls (A0 : Option Addr) (c0 : Nat) (l0 : List Rw) (a1 a2 : Int) (r : Bool) (w : World) (hr0 : Kd.C k107 w A0 l0.length l0) (hc0 : l0.length ≤ c0) (h : impl_inside.f l0 a1 a2 = some r) :
    Calls Try.prog 43 #[.slice A0 l0.length c0, .int .i64 a1, .int .i64 a2] w fun e w' => e = .returned (.bool r) ∧ Below w.heap.size w w' := by
  unfold impl_inside.f at h
  split at h
  case isFalse => cases h
  case isTrue hs =>
  have HRr := Aside0.mk (Option.some.inj h)
  clear h
  obtain ⟨W2, hW2⟩ : ∃ W2, (w.alloc (.cells #[.int .i64 a1] 3)).alloc (.cells #[.int .i64 a2] 3) = W2 := ⟨_, rfl⟩
  have hB2 : Below w.heap.size w W2 := by rw [← hW2]; exact ((Below.refl w.heap.size w).alloc (Nat.le_refl _) _).alloc (by simp) _
  have hA2 : W2.heap[w.heap.size]? = some (.cells #[.int .i64 a1] 3 (0, 0)) := by rw [← hW2]; exact (Below.heap_alloc _ _ _ (by simp)).trans (blk_new w _)
  have hA3 : W2.heap[w.heap.size + 1]? = some (.cells #[.int .i64 a2] 3 (0, 0)) := by
    rw [← hW2]
    have h_ := blk_new (w.alloc (.cells #[.int .i64 a1] 3)) (.cells #[.int .i64 a2] 3)
    simpa using h_
  have C2 := Aside0.mk (containsRow.calls k107 z107 rfl 71 #[.pointer (some ⟨w.heap.size, 0, none⟩), .pointer (some ⟨w.heap.size + 1, 0, none⟩)] Try.f71 Try.func71 (by kernel_rfl) (by kernel_rfl) (insP a1 a2) A0 c0 l0 W2 (fun x hx cs _ hK W hW => by
    obtain ⟨A, ca, B, cb, rfl, _, _, hlb, hCb⟩ := k107_open hK
    exact insideOne.calls w.heap.size (w.heap.size + 1) a1 a2 x.f1 A B _ ca cb W (blk_cell (blk_below hA2 hW) 0) (blk_cell (blk_below hA3 hW) 0) (Kd.C_below hCb hW) hlb (bdI_at hs hx)) (Kd.C_below hr0 hB2) hc0 (bdI_len hs))
  have HB2 := Aside0.mk hB2
  have HW2 := Aside0.mk hW2
  have E := Aside0.mk (show insideB l0 a1 a2 = !(l0.any (insP a1 a2)) from rfl)
  obtain ⟨q, hq⟩ : ∃ q, l0.any (insP a1 a2) = q := ⟨_, rfl⟩
  obtain ⟨n0, hn0⟩ : ∃ n, l0.length = n := ⟨_, rfl⟩
  rw [hq, hn0] at C2
  rw [hq] at E
  rw [hn0]
  clear hr0 hs hB2 hA2 hA3 hq hn0 hc0
  go_enter Try.func43, Try.ntmps43
  go_wp2_with (refine goesL_ (some 9) rfl rfl Try.func70 (by kernel_rfl) rfl #[.slice A0 n0 c0, .func (.func 71) #[] #[.pointer (some ⟨w.heap.size, 0, none⟩), .pointer (some ⟨w.heap.size + 1, 0, none⟩)]] rfl (by simp only [List.map_toArray, List.map_cons, List.map_nil]; rfl) ?_; (try rw [HW2.out]); refine C2.out.mono ?_; rintro e w3 ⟨rfl, hb3⟩; refine ⟨_, rfl, ?_⟩)
  go_ret
  exact ⟨by rw [← HRr.out, E.out]; rfl, below_step HB2.out hb3⟩

/-! ### slices_Index_int_int: function 91 -/
def slices_Index_int_int.l0 : Nat → List Int → Int → Int → Int → Option (Int)
  | 0, _, _, _, _ => none
  | k + 1, x0, x1, x7, x8 => if x8 < x7 then (if 0 ≤ x8 then (if x8 < (x0.length : Int) then (if x1 = (rd x0 x8) then (some x8) else (slices_Index_int_int.l0 k x0 x1 x7 (wrap64 (x8 + 1)))) else (none)) else (none)) else (some (-1))
def slices_Index_int_int.f (k : Nat) (l0 : List Int) (a1 : Int) : Option (Int) := slices_Index_int_int.l0 k l0 a1 (l0.length : Int) 0
theorem slices_Index_int_int.mono_l : ∀ k, (∀ y0 y1 y2 y3, LeO (slices_Index_int_int.l0 k y0 y1 y2 y3) (slices_Index_int_int.l0 (k + 1) y0 y1 y2 y3))
  | 0 => fun _ _ _ _ r h => by simp [slices_Index_int_int.l0] at h
  | k + 1 => by
    have ih0 := slices_Index_int_int.mono_l k
    · intro y0 y1 y2 y3
      unfold slices_Index_int_int.l0
      repeat' first
      | (with_reducible exact ih0 _ _ _ _)
      | (with_reducible exact LeO.refl _)
      | (with_reducible exact LeO.none _)
      | (with_reducible refine LeO.ite ?_ ?_)
      | (with_reducible refine LeO.bind ?_ (fun _ => ?_))
      | exact ih0 _ _ _ _
      | exact LeO.none _
      | refine LeO.ite ?_ ?_
      | refine LeO.bind ?_ (fun _ => ?_)
theorem slices_Index_int_int.mono : ∀ a0 a1 k, LeO (slices_Index_int_int.f k a0 a1) (slices_Index_int_int.f (k + 1) a0 a1) := by
  intro a0 a1 k
  have ih0 := slices_Index_int_int.mono_l k
  unfold slices_Index_int_int.f
  repeat' first
      | (with_reducible exact ih0 _ _ _ _)
      | (with_reducible exact LeO.refl _)
      | (with_reducible exact LeO.none _)
      | (with_reducible refine LeO.ite ?_ ?_)
      | (with_reducible refine LeO.bind ?_ (fun _ => ?_))
      | exact ih0 _ _ _ _
      | exact LeO.none _
      | refine LeO.ite ?_ ?_
      | refine LeO.bind ?_ (fun _ => ?_)
set_option maxHeartbeats 8000000 in
set_option maxRecDepth 100000 in
theorem slices_Index_int_int.calls (k : Nat) (A0 : Option Addr) (c0 : Nat) (l0 : List Int) (a1 : Int) (r : Int) (w : World) (hr0 : Kd.C (Kd.int .i64) w A0 l0.length l0) (hc0 : l0.length ≤ c0) (h : slices_Index_int_int.f k l0 a1 = some r) :
    Calls Try.prog 91 #[.slice A0 l0.length c0, .int .i64 a1] w fun e w' => e = .returned (.int .i64 r) ∧ Drawn0 w w' := by
  have HR0 := Aside0.mk hr0
  have HC0 := Aside0.mk hc0
  clear hr0 hc0
  have H : (slices_Index_int_int.l0 k l0 a1 (l0.length : Int) 0) = some r := h
  clear h
  have H' := Aside0.mk H
  clear H
  go_enter Try.func91, Try.ntmps91
  go_wp2
  go_loopg [8] k (fun kq v8 w' => ∃ (x8_1 : Int), v8 = .int .i64 x8_1 ∧ Aside0 (slices_Index_int_int.l0 kq l0 a1 (l0.length : Int) x8_1 = some r) ∧ Aside0 (kq ≤ k) ∧ Drawn0 w w')
  case atStart => exact ⟨(0), (by first | rfl | (simp; done) | (simp [*]; done) | (simp only [my_ne_nil]; rfl)), H', ⟨Nat.le_refl _⟩, by repeat (first | exact Drawn0.refl _ | apply Drawn0.step)⟩
  case round =>
    clear H'
    try clear p2
    obtain ⟨x8_1, rfl, HA, HK1, ⟨m1, rfl⟩⟩ := hrel
    cases gk with
    | zero => exact absurd HA.out (by simp [slices_Index_int_int.l0])
    | succ k1 =>
      have H := HA.out
      clear HA
      simp only [slices_Index_int_int.l0] at H
      by_cases c3 : x8_1 < (l0.length : Int)
      · rw [if_pos c3] at H
        have c3b0 : decide (x8_1 < (l0.length : Int)) = true := decide_eq_true c3
        clear c3
        by_cases c4 : 0 ≤ x8_1
        · rw [if_pos c4] at H
          have c4b0 : decide (0 ≤ x8_1) = true := decide_eq_true c4
          clear c4
          by_cases c5 : x8_1 < (l0.length : Int)
          · rw [if_pos c5] at H
            have c5b0 : decide (x8_1 < (l0.length : Int)) = true := decide_eq_true c5
            clear c5
            by_cases c6 : a1 = (rd l0 x8_1)
            · rw [if_pos c6] at H
              have c6b0 : (a1 == (rd l0 x8_1)) = true := beq_iff_eq.mpr c6
              have c6b1 : (a1 != (rd l0 x8_1)) = false := bne_eq_false_iff_eq.mpr c6
              clear c6
              obtain rfl := Option.some.inj H
              have p178 : 0 ≤ (x8_1 : Int) := of_decide_eq_true (by first | (with_reducible assumption) | assumption)
              have q178 : x8_1 < (l0.length : Int) := of_decide_eq_true (by first | (with_reducible assumption) | assumption)
              obtain ⟨ad178, e178, hx178_0⟩ := Kd.at_int HR0.out x8_1 p178 q178
              cases e178
              replace p178 := eq_true p178
              replace q178 := eq_true q178
              go_wp2
              go_ret
              exact ⟨by first | rfl | (simp; done) | (simp [*]; done) | (simp only [my_ne_nil]; rfl), by repeat (first | exact Drawn0.refl _ | apply Drawn0.step)⟩
            · rw [if_neg c6] at H
              have c6b0 : (a1 == (rd l0 x8_1)) = false := beq_eq_false_iff_ne.mpr c6
              have c6b1 : (a1 != (rd l0 x8_1)) = true := bne_iff_ne.mpr c6
              have H' := Aside0.mk H
              clear H
              have p178 : 0 ≤ (x8_1 : Int) := of_decide_eq_true (by first | (with_reducible assumption) | assumption)
              have q178 : x8_1 < (l0.length : Int) := of_decide_eq_true (by first | (with_reducible assumption) | assumption)
              obtain ⟨ad178, e178, hx178_0⟩ := Kd.at_int HR0.out x8_1 p178 q178
              cases e178
              replace p178 := eq_true p178
              replace q178 := eq_true q178
              go_wp2
              go_roundg k1
              case measure => have := HK1.out; omega
              case rel => exact ⟨(wrap64 (x8_1 + 1)), (by first | rfl | (simp; done) | (simp [*]; done) | (simp only [my_ne_nil]; rfl)), H', ⟨by have := HK1.out; omega⟩, by repeat (first | exact Drawn0.refl _ | apply Drawn0.step)⟩
          · rw [if_neg c5] at H
            exact absurd H (by simp)
        · rw [if_neg c4] at H
          exact absurd H (by simp)
      · rw [if_neg c3] at H
        have c3b0 : decide (x8_1 < (l0.length : Int)) = false := decide_eq_false c3
        clear c3
        obtain rfl := Option.some.inj H
        go_wp2
        go_ret
        exact ⟨by first | rfl | (simp; done) | (simp [*]; done) | (simp only [my_ne_nil]; rfl), by repeat (first | exact Drawn0.refl _ | apply Drawn0.step)⟩

/-! ### slices_Contains_int_int: function 74 -/
def slices_Contains_int_int.f (k : Nat) (l0 : List Int) (a1 : Int) : Option (Bool) := (slices_Index_int_int.f k l0 a1).bind fun t179 => (some (decide (t179 ≥ 0)))
theorem slices_Contains_int_int.mono : ∀ a0 a1 k, LeO (slices_Contains_int_int.f k a0 a1) (slices_Contains_int_int.f (k + 1) a0 a1) := by
  intro a0 a1 k
  unfold slices_Contains_int_int.f
  repeat' first
      | (with_reducible exact slices_Index_int_int.mono _ _ _)
      | (with_reducible exact LeO.refl _)
      | (with_reducible exact LeO.none _)
      | (with_reducible refine LeO.ite ?_ ?_)
      | (with_reducible refine LeO.bind ?_ (fun _ => ?_))
      | exact slices_Index_int_int.mono _ _ _
      | exact LeO.none _
      | refine LeO.ite ?_ ?_
      | refine LeO.bind ?_ (fun _ => ?_)
set_option maxHeartbeats 8000000 in
set_option maxRecDepth 100000 in
theorem slices_Contains_int_int.calls (k : Nat) (A0 : Option Addr) (c0 : Nat) (l0 : List Int) (a1 : Int) (r : Bool) (w : World) (hr0 : Kd.C (Kd.int .i64) w A0 l0.length l0) (hc0 : l0.length ≤ c0) (h : slices_Contains_int_int.f k l0 a1 = some r) :
    Calls Try.prog 74 #[.slice A0 l0.length c0, .int .i64 a1] w fun e w' => e = .returned (.bool r) ∧ Drawn0 w w' := by
  have HR0 := Aside0.mk hr0
  have HC0 := Aside0.mk hc0
  clear hr0 hc0
  have H : ((slices_Index_int_int.f k l0 a1).bind fun t179 => (some (decide (t179 ≥ 0)))) = some r := h
  clear h
  replace H := Option.bind_eq_some_iff.mp H
  obtain ⟨t179, A30, H⟩ := H
  replace H : (some (decide (t179 ≥ 0))) = some r := H
  have A3 := Aside0.mk A30
  clear A30
  obtain rfl := Option.some.inj H
  go_enter Try.func74, Try.ntmps74
  go_wp2_with (first | ((with_reducible refine gate_callee (f := 91) rfl ?_); refine goesL_ (some 7) rfl rfl Try.func91 (by kernel_rfl) rfl #[.slice A0 l0.length c0, .int .i64 a1] rfl (by (try simp only [List.map_toArray, List.map_cons, List.map_nil]); first | done | rfl | (simp only [List.length_drop, List.length_take]; rfl)) ?_; (with_reducible refine (slices_Index_int_int.calls k _ _ l0 a1 t179 _ ?side1 ?side2 A3.out).mono ?_); (case side1 => repeat (first | exact HR0.out | (with_reducible refine Kd.C_alloc ?_ _) | (with_reducible refine Kd.C_drewN ?_ _) | (with_reducible refine Kd.C_drew ?_))); (case side2 => exact HC0.out); rintro e w' ⟨rfl, ⟨nd, rfl⟩⟩; refine ⟨_, rfl, ?_⟩))
  go_ret
  exact ⟨by first | rfl | (simp; done) | (simp [*]; done) | (simp only [my_ne_nil]; rfl), by repeat (first | exact Drawn0.refl _ | apply Drawn0.step)⟩

/-! ### impl_widths: function 75 -/
def impl_widths.f : Option (List Int) := some ([100, 300, 900] : List Int)
set_option maxHeartbeats 8000000 in
set_option maxRecDepth 100000 in
theorem impl_widths.calls (r : List Int) (w : World) (h : impl_widths.f = some r) :
    Calls Try.prog 75 #[] w fun e w' => ∃ v0_ : Value, e = .returned (v0_) ∧ Kd.R (Kd.int .i64) 3 w' w.heap.size (fun _ => True) v0_ r ∧ Below w.heap.size w w' := by
  obtain rfl := Option.some.inj h
  clear h
  go_enter Try.func75, Try.ntmps75
  go_wp2
  go_ret
  refine ⟨_, rfl, ?_, (Below.refl _ _).alloc (Nat.le_refl _) _⟩
  refine Kd.R_of_own ?_ (fun _ _ => trivial)
  exact ⟨by simp [encs], .inr ⟨w.heap.size, 3, #[.int .i64 100, .int .i64 300, .int .i64 900], rfl, Nat.le_refl _, blk_new w _, Nat.le_refl _, by unfold maxLen; omega, rfl, rfl⟩⟩

/-! ### impl_isRange: function 46 -/
def impl_isRange.f (k : Nat) (a0 : Int) (a1 : Int) : Option (Bool) := (impl_isTime.f a0).bind fun t180 => (if t180 = true then ((impl_widths.f).bind fun t181 => ((slices_Contains_int_int.f k t181 (wrap64 (a1 - a0))).bind fun t184 => (if t184 = true then (if (wrap64 (a1 - a0)) = 0 then (none) else (some ((Int.tmod a0 (wrap64 (a1 - a0))) == 0))) else (some false)))) else (some false))
theorem impl_isRange.mono : ∀ a0 a1 k, LeO (impl_isRange.f k a0 a1) (impl_isRange.f (k + 1) a0 a1) := by
  intro a0 a1 k
  unfold impl_isRange.f
  repeat' first
      | (with_reducible exact slices_Contains_int_int.mono _ _ _)
      | (with_reducible exact LeO.refl _)
      | (with_reducible exact LeO.none _)
      | (with_reducible refine LeO.ite ?_ ?_)
      | (with_reducible refine LeO.bind ?_ (fun _ => ?_))
      | exact slices_Contains_int_int.mono _ _ _
      | exact LeO.none _
      | refine LeO.ite ?_ ?_
      | refine LeO.bind ?_ (fun _ => ?_)
set_option maxHeartbeats 8000000 in
set_option maxRecDepth 100000 in
theorem impl_isRange.calls (k : Nat) (a0 : Int) (a1 : Int) (r : Bool) (w : World) (h : impl_isRange.f k a0 a1 = some r) :
    Calls Try.prog 46 #[.int .i64 a0, .int .i64 a1] w fun e w' => e = .returned (.bool r) ∧ Below w.heap.size w w' := by
  have HB := Aside0.mk (Below.refl w.heap.size w)
  have H : ((impl_isTime.f a0).bind fun t180 => (if t180 = true then ((impl_widths.f).bind fun t181 => ((slices_Contains_int_int.f k t181 (wrap64 (a1 - a0))).bind fun t184 => (if t184 = true then (if (wrap64 (a1 - a0)) = 0 then (none) else (some ((Int.tmod a0 (wrap64 (a1 - a0))) == 0))) else (some false)))) else (some false))) = some r := h
  clear h
  replace H := Option.bind_eq_some_iff.mp H
  obtain ⟨t180, A30, H⟩ := H
  replace H : (if t180 = true then ((impl_widths.f).bind fun t181 => ((slices_Contains_int_int.f k t181 (wrap64 (a1 - a0))).bind fun t184 => (if t184 = true then (if (wrap64 (a1 - a0)) = 0 then (none) else (some ((Int.tmod a0 (wrap64 (a1 - a0))) == 0))) else (some false)))) else (some false)) = some r := H
  have A3 := Aside0.mk A30
  clear A30
  by_cases c4 : t180 = true
  · subst c4
    have H1 : ((impl_widths.f).bind fun t181 => ((slices_Contains_int_int.f k t181 (wrap64 (a1 - a0))).bind fun t184 => (if t184 = true then (if (wrap64 (a1 - a0)) = 0 then (none) else (some ((Int.tmod a0 (wrap64 (a1 - a0))) == 0))) else (some false)))) = some r := by rw [if_pos rfl] at H; exact H
    clear H
    have H := H1
    clear H1
    replace H := Option.bind_eq_some_iff.mp H
    obtain ⟨t181, A50, H⟩ := H
    replace H : ((slices_Contains_int_int.f k t181 (wrap64 (a1 - a0))).bind fun t184 => (if t184 = true then (if (wrap64 (a1 - a0)) = 0 then (none) else (some ((Int.tmod a0 (wrap64 (a1 - a0))) == 0))) else (some false))) = some r := H
    have A5 := Aside0.mk A50
    clear A50
    replace H := Option.bind_eq_some_iff.mp H
    obtain ⟨t184, A60, H⟩ := H
    replace H : (if t184 = true then (if (wrap64 (a1 - a0)) = 0 then (none) else (some ((Int.tmod a0 (wrap64 (a1 - a0))) == 0))) else (some false)) = some r := H
    have A6 := Aside0.mk A60
    clear A60
    by_cases c7 : t184 = true
    · subst c7
      have H1 : (if (wrap64 (a1 - a0)) = 0 then (none) else (some ((Int.tmod a0 (wrap64 (a1 - a0))) == 0))) = some r := by rw [if_pos rfl] at H; exact H
      clear H
      have H := H1
      clear H1
      by_cases c8 : (wrap64 (a1 - a0)) = 0
      · rw [if_pos c8] at H
        exact absurd H (by simp)
      · rw [if_neg c8] at H
        have c8b0 : ((wrap64 (a1 - a0)) == 0) = false := beq_eq_false_iff_ne.mpr c8
        have c8b1 : ((wrap64 (a1 - a0)) != 0) = true := bne_iff_ne.mpr c8
        obtain rfl := Option.some.inj H
        go_enter Try.func46, Try.ntmps46
        go_wp2_with (first | ((with_reducible refine gate_callee (f := 34) rfl ?_); refine goesL_ (some 6) rfl rfl Try.func34 (by kernel_rfl) rfl #[.int .i64 a0] rfl (by (try simp only [List.map_toArray, List.map_cons, List.map_nil]); first | done | rfl | (simp only [List.length_drop, List.length_take]; rfl)) ?_; (with_reducible refine (impl_isTime.calls a0 true _ A3.out).mono ?_); rintro e w' ⟨rfl, ⟨nd, rfl⟩⟩; refine ⟨_, rfl, ?_⟩) | (go_at_call 75; (with_reducible refine (impl_widths.calls  t181 _ A5.out).mono ?_); rintro e w9 ⟨v182, rfl, ho0, hb⟩; have n0_ := Aside0.mk (Kd.R_lower ho0 (below_size (by repeat (first | (with_reducible first | exact HB.out | apply below_alloc | apply pw_below_drewN | apply below_drew1) | exact HB.out)))); have n1_ := Aside0.mk (below_step (by repeat (first | (with_reducible first | exact HB.out | apply below_alloc | apply pw_below_drewN | apply below_drew1) | exact HB.out)) hb); clear HB; have HO183 := n0_; have HB := n1_; clear n0_ n1_; (try clear hb); (try clear hb2); (try clear hk); (try clear hi); (try clear ho0); obtain ⟨Ao10, co10, eo10⟩ := Kd.R_slice HO183.out; subst eo10) | (go_at_call 74; (with_reducible refine (slices_Contains_int_int.calls k _ _ t181 (wrap64 (a1 - a0)) true _ ?side1 ?side2 A6.out).mono ?_); (case side1 => repeat (first | exact (Kd.R_reads' HO183.out).2.2 | (with_reducible refine Kd.C_alloc ?_ _) | (with_reducible refine Kd.C_drewN ?_ _) | (with_reducible refine Kd.C_drew ?_))); (case side2 => exact (Kd.R_reads' HO183.out).2.1); rintro e w' ⟨rfl, ⟨nd, rfl⟩⟩))
        go_ret
        exact ⟨by first | rfl | (simp [errW_none, errW_some] <;> rfl) | (simp [*, errW_none, errW_some] <;> rfl), by repeat (first | (with_reducible first | exact HB.out | apply below_alloc | apply pw_below_drewN | apply below_drew1) | exact HB.out)⟩
    · replace c7 := Bool.eq_false_iff.mpr c7
      subst c7
      have H1 : (some false) = some r := by rw [if_neg (show ¬ (false = true) by decide)] at H; exact H
      clear H
      have H := H1
      clear H1
      obtain rfl := Option.some.inj H
      go_enter Try.func46, Try.ntmps46
      go_wp2_with (first | ((with_reducible refine gate_callee (f := 34) rfl ?_); refine goesL_ (some 6) rfl rfl Try.func34 (by kernel_rfl) rfl #[.int .i64 a0] rfl (by (try simp only [List.map_toArray, List.map_cons, List.map_nil]); first | done | rfl | (simp only [List.length_drop, List.length_take]; rfl)) ?_; (with_reducible refine (impl_isTime.calls a0 true _ A3.out).mono ?_); rintro e w' ⟨rfl, ⟨nd, rfl⟩⟩; refine ⟨_, rfl, ?_⟩) | (go_at_call 75; (with_reducible refine (impl_widths.calls  t181 _ A5.out).mono ?_); rintro e w11 ⟨v182, rfl, ho0, hb⟩; have n0_ := Aside0.mk (Kd.R_lower ho0 (below_size (by repeat (first | (with_reducible first | exact HB.out | apply below_alloc | apply pw_below_drewN | apply below_drew1) | exact HB.out)))); have n1_ := Aside0.mk (below_step (by repeat (first | (with_reducible first | exact HB.out | apply below_alloc | apply pw_below_drewN | apply below_drew1) | exact HB.out)) hb); clear HB; have HO183 := n0_; have HB := n1_; clear n0_ n1_; (try clear hb); (try clear hb2); (try clear hk); (try clear hi); (try clear ho0); obtain ⟨Ao12, co12, eo12⟩ := Kd.R_slice HO183.out; subst eo12) | (go_at_call 74; (with_reducible refine (slices_Contains_int_int.calls k _ _ t181 (wrap64 (a1 - a0)) false _ ?side1 ?side2 A6.out).mono ?_); (case side1 => repeat (first | exact (Kd.R_reads' HO183.out).2.2 | (with_reducible refine Kd.C_alloc ?_ _) | (with_reducible refine Kd.C_drewN ?_ _) | (with_reducible refine Kd.C_drew ?_))); (case side2 => exact (Kd.R_reads' HO183.out).2.1); rintro e w' ⟨rfl, ⟨nd, rfl⟩⟩))
      go_ret
      exact ⟨by first | rfl | (simp [errW_none, errW_some] <;> rfl) | (simp [*, errW_none, errW_some] <;> rfl), by repeat (first | (with_reducible first | exact HB.out | apply below_alloc | apply pw_below_drewN | apply below_drew1) | exact HB.out)⟩
  · replace c4 := Bool.eq_false_iff.mpr c4
    subst c4
    have H1 : (some false) = some r := by rw [if_neg (show ¬ (false = true) by decide)] at H; exact H
    clear H
    have H := H1
    clear H1
    obtain rfl := Option.some.inj H
    go_enter Try.func46, Try.ntmps46
    go_wp2_with (first | ((with_reducible refine gate_callee (f := 34) rfl ?_); refine goesL_ (some 6) rfl rfl Try.func34 (by kernel_rfl) rfl #[.int .i64 a0] rfl (by (try simp only [List.map_toArray, List.map_cons, List.map_nil]); first | done | rfl | (simp only [List.length_drop, List.length_take]; rfl)) ?_; (with_reducible refine (impl_isTime.calls a0 false _ A3.out).mono ?_); rintro e w' ⟨rfl, ⟨nd, rfl⟩⟩; refine ⟨_, rfl, ?_⟩))
    go_ret
    exact ⟨by first | rfl | (simp [errW_none, errW_some] <;> rfl) | (simp [*, errW_none, errW_some] <;> rfl), by repeat (first | (with_reducible first | exact HB.out | apply below_alloc | apply pw_below_drewN | apply below_drew1) | exact HB.out)⟩

/-! ### impl_BlockOk: function 19 -/
def impl_BlockOk.f (k : Nat) (a0_0 : Int) (a0_1 : Int) (l0_2 : List (S107)) : Option (Bool) := (impl_isRange.f k a0_0 a0_1).bind fun t186 => (if t186 = true then ((impl_RowsOk.f k l0_2).bind fun t187 => (if t187 = true then (if (l0_2.length : Int) > 0 then ((impl_inside.f l0_2 a0_0 a0_1).bind fun t188 => (some t188)) else (some false)) else (some false))) else (some false))
theorem impl_BlockOk.mono : ∀ a0 a1 a2 k, LeO (impl_BlockOk.f k a0 a1 a2) (impl_BlockOk.f (k + 1) a0 a1 a2) := by
  intro a0 a1 a2 k
  unfold impl_BlockOk.f
  repeat' first
      | (with_reducible exact impl_RowsOk.mono _ _)
      | (with_reducible exact impl_isRange.mono _ _ _)
      | (with_reducible exact LeO.refl _)
      | (with_reducible exact LeO.none _)
      | (with_reducible refine LeO.ite ?_ ?_)
      | (with_reducible refine LeO.bind ?_ (fun _ => ?_))
      | exact impl_RowsOk.mono _ _
      | exact impl_isRange.mono _ _ _
      | exact LeO.none _
      | refine LeO.ite ?_ ?_
      | refine LeO.bind ?_ (fun _ => ?_)
set_option maxHeartbeats 8000000 in
set_option maxRecDepth 100000 in
theorem impl_BlockOk.calls (k : Nat) (a0_0 : Int) (a0_1 : Int) (A0_2 : Option Addr) (c0_2 : Nat) (l0_2 : List (S107)) (r : Bool) (w : World) (hr0_2 : Kd.C k107 w A0_2 l0_2.length l0_2) (hc0_2 : l0_2.length ≤ c0_2) (h : impl_BlockOk.f k a0_0 a0_1 l0_2 = some r) :
    Calls Try.prog 19 #[.agg #[.int .i64 a0_0, .int .i64 a0_1, .slice A0_2 l0_2.length c0_2]] w fun e w' => e = .returned (.bool r) ∧ Below w.heap.size w w' := by
  have hu51 := Try.underlying51
  have HR0_2 := Aside0.mk hr0_2
  have HC0_2 := Aside0.mk hc0_2
  clear hr0_2 hc0_2
  have HB := Aside0.mk (Below.refl w.heap.size w)
  have H : ((impl_isRange.f k a0_0 a0_1).bind fun t186 => (if t186 = true then ((impl_RowsOk.f k l0_2).bind fun t187 => (if t187 = true then (if (l0_2.length : Int) > 0 then ((impl_inside.f l0_2 a0_0 a0_1).bind fun t188 => (some t188)) else (some false)) else (some false))) else (some false))) = some r := h
  clear h
  replace H := Option.bind_eq_some_iff.mp H
  obtain ⟨t186, A20, H⟩ := H
  replace H : (if t186 = true then ((impl_RowsOk.f k l0_2).bind fun t187 => (if t187 = true then (if (l0_2.length : Int) > 0 then ((impl_inside.f l0_2 a0_0 a0_1).bind fun t188 => (some t188)) else (some false)) else (some false))) else (some false)) = some r := H
  have A2 := Aside0.mk A20
  clear A20
  by_cases c3 : t186 = true
  · subst c3
    have H1 : ((impl_RowsOk.f k l0_2).bind fun t187 => (if t187 = true then (if (l0_2.length : Int) > 0 then ((impl_inside.f l0_2 a0_0 a0_1).bind fun t188 => (some t188)) else (some false)) else (some false))) = some r := by rw [if_pos rfl] at H; exact H
    clear H
    have H := H1
    clear H1
    replace H := Option.bind_eq_some_iff.mp H
    obtain ⟨t187, A40, H⟩ := H
    replace H : (if t187 = true then (if (l0_2.length : Int) > 0 then ((impl_inside.f l0_2 a0_0 a0_1).bind fun t188 => (some t188)) else (some false)) else (some false)) = some r := H
    have A4 := Aside0.mk A40
    clear A40
    by_cases c5 : t187 = true
    · subst c5
      have H1 : (if (l0_2.length : Int) > 0 then ((impl_inside.f l0_2 a0_0 a0_1).bind fun t188 => (some t188)) else (some false)) = some r := by rw [if_pos rfl] at H; exact H
      clear H
      have H := H1
      clear H1
      by_cases c6 : (l0_2.length : Int) > 0
      · rw [if_pos c6] at H
        have c6b0 : decide (0 < (l0_2.length : Int)) = true := decide_eq_true c6
        have c6b1 : decide (0 < l0_2.length) = true := decide_eq_true (by omega)
        clear c6
        replace H := Option.bind_eq_some_iff.mp H
        obtain ⟨t188, A70, H⟩ := H
        replace H : (some t188) = some r := H
        have A7 := Aside0.mk A70
        clear A70
        obtain rfl := Option.some.inj H
        go_enter Try.func19, Try.ntmps19
        go_wp2_with (first | ((with_reducible refine gate_dst (N := 1) rfl ?_); (try (refine gate_guard (by rfl) ?_; dsimp only)); refine box_event ?hg (N := 1) ?hd (cs := #[.int .i64 a0_0, .int .i64 a0_1, .slice A0_2 l0_2.length c0_2]) (t := 51) ?hr ?_; (case hd => rfl); (case hg => rfl); (case hr => first | (go_simp; done) | (go_simp; rfl)); intro gb185 hg w8 hbox hb; have n0_ := Aside0.mk (below_step (by repeat (first | (with_reducible first | exact HB.out | apply below_alloc | apply pw_below_drewN | apply below_drew1) | exact HB.out)) hb); have n1_ := Aside0.mk (hbox); have n2_ := Aside0.mk ((by rw [hg]; exact (below_size (by repeat (first | (with_reducible first | exact HB.out | apply below_alloc | apply pw_below_drewN | apply below_drew1) | exact HB.out))) : w.heap.size ≤ gb185)); have n3_ := Aside0.mk ((by rw [hg]; exact (below_size (by repeat (first | (with_reducible first | exact HB.out | apply below_alloc | apply pw_below_drewN | apply below_drew1) | exact HB.out))) : w.heap.size ≤ gb185)); clear HB; have HB := n0_; have BK185 := n1_; have GW185 := n2_; have GE185 := n3_; clear n0_ n1_ n2_ n3_; clear hb hbox hg; have hcz9_0 : w8.cell? ⟨gb185, 0, none⟩ = some (.int .i64 a0_0) := (blk_cell BK185.out 0).trans rfl; have hcz9_1 : w8.cell? ⟨gb185, 1, none⟩ = some (.int .i64 a0_1) := (blk_cell BK185.out 1).trans rfl; have hcz9_2 : w8.cell? ⟨gb185, 2, none⟩ = some (.slice A0_2 l0_2.length c0_2) := (blk_cell BK185.out 2).trans rfl; have hfz9_0 := blk_frozen BK185.out 0; have hfz9_1 := blk_frozen BK185.out 1; have hfz9_2 := blk_frozen BK185.out 2) | ((with_reducible refine gate_callee (f := 46) rfl ?_); refine goesL_ (some 7) rfl rfl Try.func46 (by kernel_rfl) rfl #[.int .i64 a0_0, .int .i64 a0_1] rfl (by (try simp only [List.map_toArray, List.map_cons, List.map_nil]); first | done | rfl | (simp only [List.length_drop, List.length_take]; rfl)) ?_; (with_reducible refine (impl_isRange.calls k a0_0 a0_1 true _ A2.out).mono ?_); rintro e w10 ⟨rfl, hb⟩; refine ⟨_, rfl, ?_⟩; have n0_ := Aside0.mk (blk_below (g := gb185) (o := .cells #[.int .i64 a0_0, .int .i64 a0_1, .slice A0_2 l0_2.length c0_2] 51 (0, 0)) (by (with_reducible repeat (first | refine blk_drewN ?_ _ | refine blk_drew ?_ | refine blk_alloc ?_ _)); exact BK185.out) hb); have n1_ := Aside0.mk (below_step (by repeat (first | (with_reducible first | exact HB.out | apply below_alloc | apply pw_below_drewN | apply below_drew1 | refine below_set ?_ GE185.out) | exact HB.out)) hb); clear BK185; clear HB; have BK185 := n0_; have HB := n1_; clear n0_ n1_; (try clear hb); (try clear hb2); (try clear hk); (try clear hi); have hcz11_0 : w10.cell? ⟨gb185, 0, none⟩ = some (.int .i64 a0_0) := (blk_cell BK185.out 0).trans rfl; have hcz11_1 : w10.cell? ⟨gb185, 1, none⟩ = some (.int .i64 a0_1) := (blk_cell BK185.out 1).trans rfl; have hcz11_2 : w10.cell? ⟨gb185, 2, none⟩ = some (.slice A0_2 l0_2.length c0_2) := (blk_cell BK185.out 2).trans rfl; have hfz11_0 := blk_frozen BK185.out 0; have hfz11_1 := blk_frozen BK185.out 1; have hfz11_2 := blk_frozen BK185.out 2) | (go_at_call 42; (with_reducible refine (impl_RowsOk.calls k _ _ l0_2 true _ ?side1 ?side2 A4.out).mono ?_); (case side1 => repeat (first | exact (Kd.C_below HR0_2.out HB.out) | (with_reducible refine Kd.C_alloc ?_ _) | (with_reducible refine Kd.C_drewN ?_ _) | (with_reducible refine Kd.C_drew ?_))); (case side2 => exact HC0_2.out); rintro e w12 ⟨rfl, hb⟩; have n0_ := Aside0.mk (blk_below (g := gb185) (o := .cells #[.int .i64 a0_0, .int .i64 a0_1, .slice A0_2 l0_2.length c0_2] 51 (0, 0)) (by (with_reducible repeat (first | refine blk_drewN ?_ _ | refine blk_drew ?_ | refine blk_alloc ?_ _)); exact BK185.out) hb); have n1_ := Aside0.mk (below_step (by repeat (first | (with_reducible first | exact HB.out | apply below_alloc | apply pw_below_drewN | apply below_drew1 | refine below_set ?_ GE185.out) | exact HB.out)) hb); clear BK185; clear HB; have BK185 := n0_; have HB := n1_; clear n0_ n1_; (try clear hb); (try clear hb2); (try clear hk); (try clear hi); have hcz13_0 : w12.cell? ⟨gb185, 0, none⟩ = some (.int .i64 a0_0) := (blk_cell BK185.out 0).trans rfl; have hcz13_1 : w12.cell? ⟨gb185, 1, none⟩ = some (.int .i64 a0_1) := (blk_cell BK185.out 1).trans rfl; have hcz13_2 : w12.cell? ⟨gb185, 2, none⟩ = some (.slice A0_2 l0_2.length c0_2) := (blk_cell BK185.out 2).trans rfl; have hfz13_0 := blk_frozen BK185.out 0; have hfz13_1 := blk_frozen BK185.out 1; have hfz13_2 := blk_frozen BK185.out 2) | (go_at_call 43; (with_reducible refine (impl_inside.calls _ _ l0_2 a0_0 a0_1 t188 _ ?side1 ?side2 A7.out).mono ?_); (case side1 => repeat (first | exact (Kd.C_below HR0_2.out HB.out) | (with_reducible refine Kd.C_alloc ?_ _) | (with_reducible refine Kd.C_drewN ?_ _) | (with_reducible refine Kd.C_drew ?_))); (case side2 => exact HC0_2.out); rintro e w14 ⟨rfl, hb⟩; have n0_ := Aside0.mk (blk_below (g := gb185) (o := .cells #[.int .i64 a0_0, .int .i64 a0_1, .slice A0_2 l0_2.length c0_2] 51 (0, 0)) (by (with_reducible repeat (first | refine blk_drewN ?_ _ | refine blk_drew ?_ | refine blk_alloc ?_ _)); exact BK185.out) hb); have n1_ := Aside0.mk (below_step (by repeat (first | (with_reducible first | exact HB.out | apply below_alloc | apply pw_below_drewN | apply below_drew1 | refine below_set ?_ GE185.out) | exact HB.out)) hb); clear BK185; clear HB; have BK185 := n0_; have HB := n1_; clear n0_ n1_; (try clear hb); (try clear hb2); (try clear hk); (try clear hi)))
        go_ret
        exact ⟨by first | rfl | (simp [errW_none, errW_some] <;> rfl) | (simp [*, errW_none, errW_some] <;> rfl), by repeat (first | (with_reducible first | exact HB.out | apply below_alloc | apply pw_below_drewN | apply below_drew1 | refine below_set ?_ GE185.out) | exact HB.out)⟩
      · rw [if_neg c6] at H
        have c6b0 : decide (0 < (l0_2.length : Int)) = false := decide_eq_false c6
        have c6b1 : decide (0 < l0_2.length) = false := decide_eq_false (by omega)
        clear c6
        obtain rfl := Option.some.inj H
        go_enter Try.func19, Try.ntmps19
        go_wp2_with (first | ((with_reducible refine gate_dst (N := 1) rfl ?_); (try (refine gate_guard (by rfl) ?_; dsimp only)); refine box_event ?hg (N := 1) ?hd (cs := #[.int .i64 a0_0, .int .i64 a0_1, .slice A0_2 l0_2.length c0_2]) (t := 51) ?hr ?_; (case hd => rfl); (case hg => rfl); (case hr => first | (go_simp; done) | (go_simp; rfl)); intro gb185 hg w15 hbox hb; have n0_ := Aside0.mk (below_step (by repeat (first | (with_reducible first | exact HB.out | apply below_alloc | apply pw_below_drewN | apply below_drew1) | exact HB.out)) hb); have n1_ := Aside0.mk (hbox); have n2_ := Aside0.mk ((by rw [hg]; exact (below_size (by repeat (first | (with_reducible first | exact HB.out | apply below_alloc | apply pw_below_drewN | apply below_drew1) | exact HB.out))) : w.heap.size ≤ gb185)); have n3_ := Aside0.mk ((by rw [hg]; exact (below_size (by repeat (first | (with_reducible first | exact HB.out | apply below_alloc | apply pw_below_drewN | apply below_drew1) | exact HB.out))) : w.heap.size ≤ gb185)); clear HB; have HB := n0_; have BK185 := n1_; have GW185 := n2_; have GE185 := n3_; clear n0_ n1_ n2_ n3_; clear hb hbox hg; have hcz16_0 : w15.cell? ⟨gb185, 0, none⟩ = some (.int .i64 a0_0) := (blk_cell BK185.out 0).trans rfl; have hcz16_1 : w15.cell? ⟨gb185, 1, none⟩ = some (.int .i64 a0_1) := (blk_cell BK185.out 1).trans rfl; have hcz16_2 : w15.cell? ⟨gb185, 2, none⟩ = some (.slice A0_2 l0_2.length c0_2) := (blk_cell BK185.out 2).trans rfl; have hfz16_0 := blk_frozen BK185.out 0; have hfz16_1 := blk_frozen BK185.out 1; have hfz16_2 := blk_frozen BK185.out 2) | ((with_reducible refine gate_callee (f := 46) rfl ?_); refine goesL_ (some 7) rfl rfl Try.func46 (by kernel_rfl) rfl #[.int .i64 a0_0, .int .i64 a0_1] rfl (by (try simp only [List.map_toArray, List.map_cons, List.map_nil]); first | done | rfl | (simp only [List.length_drop, List.length_take]; rfl)) ?_; (with_reducible refine (impl_isRange.calls k a0_0 a0_1 true _ A2.out).mono ?_); rintro e w17 ⟨rfl, hb⟩; refine ⟨_, rfl, ?_⟩; have n0_ := Aside0.mk (blk_below (g := gb185) (o := .cells #[.int .i64 a0_0, .int .i64 a0_1, .slice A0_2 l0_2.length c0_2] 51 (0, 0)) (by (with_reducible repeat (first | refine blk_drewN ?_ _ | refine blk_drew ?_ | refine blk_alloc ?_ _)); exact BK185.out) hb); have n1_ := Aside0.mk (below_step (by repeat (first | (with_reducible first | exact HB.out | apply below_alloc | apply pw_below_drewN | apply below_drew1 | refine below_set ?_ GE185.out) | exact HB.out)) hb); clear BK185; clear HB; have BK185 := n0_; have HB := n1_; clear n0_ n1_; (try clear hb); (try clear hb2); (try clear hk); (try clear hi); have hcz18_0 : w17.cell? ⟨gb185, 0, none⟩ = some (.int .i64 a0_0) := (blk_cell BK185.out 0).trans rfl; have hcz18_1 : w17.cell? ⟨gb185, 1, none⟩ = some (.int .i64 a0_1) := (blk_cell BK185.out 1).trans rfl; have hcz18_2 : w17.cell? ⟨gb185, 2, none⟩ = some (.slice A0_2 l0_2.length c0_2) := (blk_cell BK185.out 2).trans rfl; have hfz18_0 := blk_frozen BK185.out 0; have hfz18_1 := blk_frozen BK185.out 1; have hfz18_2 := blk_frozen BK185.out 2) | (go_at_call 42; (with_reducible refine (impl_RowsOk.calls k _ _ l0_2 true _ ?side1 ?side2 A4.out).mono ?_); (case side1 => repeat (first | exact (Kd.C_below HR0_2.out HB.out) | (with_reducible refine Kd.C_alloc ?_ _) | (with_reducible refine Kd.C_drewN ?_ _) | (with_reducible refine Kd.C_drew ?_))); (case side2 => exact HC0_2.out); rintro e w19 ⟨rfl, hb⟩; have n0_ := Aside0.mk (blk_below (g := gb185) (o := .cells #[.int .i64 a0_0, .int .i64 a0_1, .slice A0_2 l0_2.length c0_2] 51 (0, 0)) (by (with_reducible repeat (first | refine blk_drewN ?_ _ | refine blk_drew ?_ | refine blk_alloc ?_ _)); exact BK185.out) hb); have n1_ := Aside0.mk (below_step (by repeat (first | (with_reducible first | exact HB.out | apply below_alloc | apply pw_below_drewN | apply below_drew1 | refine below_set ?_ GE185.out) | exact HB.out)) hb); clear BK185; clear HB; have BK185 := n0_; have HB := n1_; clear n0_ n1_; (try clear hb); (try clear hb2); (try clear hk); (try clear hi); have hcz20_0 : w19.cell? ⟨gb185, 0, none⟩ = some (.int .i64 a0_0) := (blk_cell BK185.out 0).trans rfl; have hcz20_1 : w19.cell? ⟨gb185, 1, none⟩ = some (.int .i64 a0_1) := (blk_cell BK185.out 1).trans rfl; have hcz20_2 : w19.cell? ⟨gb185, 2, none⟩ = some (.slice A0_2 l0_2.length c0_2) := (blk_cell BK185.out 2).trans rfl; have hfz20_0 := blk_frozen BK185.out 0; have hfz20_1 := blk_frozen BK185.out 1; have hfz20_2 := blk_frozen BK185.out 2))
        go_ret
        exact ⟨by first | rfl | (simp [errW_none, errW_some] <;> rfl) | (simp [*, errW_none, errW_some] <;> rfl), by repeat (first | (with_reducible first | exact HB.out | apply below_alloc | apply pw_below_drewN | apply below_drew1 | refine below_set ?_ GE185.out) | exact HB.out)⟩
    · replace c5 := Bool.eq_false_iff.mpr c5
      subst c5
      have H1 : (some false) = some r := by rw [if_neg (show ¬ (false = true) by decide)] at H; exact H
      clear H
      have H := H1
      clear H1
      obtain rfl := Option.some.inj H
      go_enter Try.func19, Try.ntmps19
      go_wp2_with (first | ((with_reducible refine gate_dst (N := 1) rfl ?_); (try (refine gate_guard (by rfl) ?_; dsimp only)); refine box_event ?hg (N := 1) ?hd (cs := #[.int .i64 a0_0, .int .i64 a0_1, .slice A0_2 l0_2.length c0_2]) (t := 51) ?hr ?_; (case hd => rfl); (case hg => rfl); (case hr => first | (go_simp; done) | (go_simp; rfl)); intro gb185 hg w21 hbox hb; have n0_ := Aside0.mk (below_step (by repeat (first | (with_reducible first | exact HB.out | apply below_alloc | apply pw_below_drewN | apply below_drew1) | exact HB.out)) hb); have n1_ := Aside0.mk (hbox); have n2_ := Aside0.mk ((by rw [hg]; exact (below_size (by repeat (first | (with_reducible first | exact HB.out | apply below_alloc | apply pw_below_drewN | apply below_drew1) | exact HB.out))) : w.heap.size ≤ gb185)); have n3_ := Aside0.mk ((by rw [hg]; exact (below_size (by repeat (first | (with_reducible first | exact HB.out | apply below_alloc | apply pw_below_drewN | apply below_drew1) | exact HB.out))) : w.heap.size ≤ gb185)); clear HB; have HB := n0_; have BK185 := n1_; have GW185 := n2_; have GE185 := n3_; clear n0_ n1_ n2_ n3_; clear hb hbox hg; have hcz22_0 : w21.cell? ⟨gb185, 0, none⟩ = some (.int .i64 a0_0) := (blk_cell BK185.out 0).trans rfl; have hcz22_1 : w21.cell? ⟨gb185, 1, none⟩ = some (.int .i64 a0_1) := (blk_cell BK185.out 1).trans rfl; have hcz22_2 : w21.cell? ⟨gb185, 2, none⟩ = some (.slice A0_2 l0_2.length c0_2) := (blk_cell BK185.out 2).trans rfl; have hfz22_0 := blk_frozen BK185.out 0; have hfz22_1 := blk_frozen BK185.out 1; have hfz22_2 := blk_frozen BK185.out 2) | ((with_reducible refine gate_callee (f := 46) rfl ?_); refine goesL_ (some 7) rfl rfl Try.func46 (by kernel_rfl) rfl #[.int .i64 a0_0, .int .i64 a0_1] rfl (by (try simp only [List.map_toArray, List.map_cons, List.map_nil]); first | done | rfl | (simp only [List.length_drop, List.length_take]; rfl)) ?_; (with_reducible refine (impl_isRange.calls k a0_0 a0_1 true _ A2.out).mono ?_); rintro e w23 ⟨rfl, hb⟩; refine ⟨_, rfl, ?_⟩; have n0_ := Aside0.mk (blk_below (g := gb185) (o := .cells #[.int .i64 a0_0, .int .i64 a0_1, .slice A0_2 l0_2.length c0_2] 51 (0, 0)) (by (with_reducible repeat (first | refine blk_drewN ?_ _ | refine blk_drew ?_ | refine blk_alloc ?_ _)); exact BK185.out) hb); have n1_ := Aside0.mk (below_step (by repeat (first | (with_reducible first | exact HB.out | apply below_alloc | apply pw_below_drewN | apply below_drew1 | refine below_set ?_ GE185.out) | exact HB.out)) hb); clear BK185; clear HB; have BK185 := n0_; have HB := n1_; clear n0_ n1_; (try clear hb); (try clear hb2); (try clear hk); (try clear hi); have hcz24_0 : w23.cell? ⟨gb185, 0, none⟩ = some (.int .i64 a0_0) := (blk_cell BK185.out 0).trans rfl; have hcz24_1 : w23.cell? ⟨gb185, 1, none⟩ = some (.int .i64 a0_1) := (blk_cell BK185.out 1).trans rfl; have hcz24_2 : w23.cell? ⟨gb185, 2, none⟩ = some (.slice A0_2 l0_2.length c0_2) := (blk_cell BK185.out 2).trans rfl; have hfz24_0 := blk_frozen BK185.out 0; have hfz24_1 := blk_frozen BK185.out 1; have hfz24_2 := blk_frozen BK185.out 2) | (go_at_call 42; (with_reducible refine (impl_RowsOk.calls k _ _ l0_2 false _ ?side1 ?side2 A4.out).mono ?_); (case side1 => repeat (first | exact (Kd.C_below HR0_2.out HB.out) | (with_reducible refine Kd.C_alloc ?_ _) | (with_reducible refine Kd.C_drewN ?_ _) | (with_reducible refine Kd.C_drew ?_))); (case side2 => exact HC0_2.out); rintro e w25 ⟨rfl, hb⟩; have n0_ := Aside0.mk (blk_below (g := gb185) (o := .cells #[.int .i64 a0_0, .int .i64 a0_1, .slice A0_2 l0_2.length c0_2] 51 (0, 0)) (by (with_reducible repeat (first | refine blk_drewN ?_ _ | refine blk_drew ?_ | refine blk_alloc ?_ _)); exact BK185.out) hb); have n1_ := Aside0.mk (below_step (by repeat (first | (with_reducible first | exact HB.out | apply below_alloc | apply pw_below_drewN | apply below_drew1 | refine below_set ?_ GE185.out) | exact HB.out)) hb); clear BK185; clear HB; have BK185 := n0_; have HB := n1_; clear n0_ n1_; (try clear hb); (try clear hb2); (try clear hk); (try clear hi)))
      go_ret
      exact ⟨by first | rfl | (simp [errW_none, errW_some] <;> rfl) | (simp [*, errW_none, errW_some] <;> rfl), by repeat (first | (with_reducible first | exact HB.out | apply below_alloc | apply pw_below_drewN | apply below_drew1 | refine below_set ?_ GE185.out) | exact HB.out)⟩
  · replace c3 := Bool.eq_false_iff.mpr c3
    subst c3
    have H1 : (some false) = some r := by rw [if_neg (show ¬ (false = true) by decide)] at H; exact H
    clear H
    have H := H1
    clear H1
    obtain rfl := Option.some.inj H
    go_enter Try.func19, Try.ntmps19
    go_wp2_with (first | ((with_reducible refine gate_dst (N := 1) rfl ?_); (try (refine gate_guard (by rfl) ?_; dsimp only)); refine box_event ?hg (N := 1) ?hd (cs := #[.int .i64 a0_0, .int .i64 a0_1, .slice A0_2 l0_2.length c0_2]) (t := 51) ?hr ?_; (case hd => rfl); (case hg => rfl); (case hr => first | (go_simp; done) | (go_simp; rfl)); intro gb185 hg w26 hbox hb; have n0_ := Aside0.mk (below_step (by repeat (first | (with_reducible first | exact HB.out | apply below_alloc | apply pw_below_drewN | apply below_drew1) | exact HB.out)) hb); have n1_ := Aside0.mk (hbox); have n2_ := Aside0.mk ((by rw [hg]; exact (below_size (by repeat (first | (with_reducible first | exact HB.out | apply below_alloc | apply pw_below_drewN | apply below_drew1) | exact HB.out))) : w.heap.size ≤ gb185)); have n3_ := Aside0.mk ((by rw [hg]; exact (below_size (by repeat (first | (with_reducible first | exact HB.out | apply below_alloc | apply pw_below_drewN | apply below_drew1) | exact HB.out))) : w.heap.size ≤ gb185)); clear HB; have HB := n0_; have BK185 := n1_; have GW185 := n2_; have GE185 := n3_; clear n0_ n1_ n2_ n3_; clear hb hbox hg; have hcz27_0 : w26.cell? ⟨gb185, 0, none⟩ = some (.int .i64 a0_0) := (blk_cell BK185.out 0).trans rfl; have hcz27_1 : w26.cell? ⟨gb185, 1, none⟩ = some (.int .i64 a0_1) := (blk_cell BK185.out 1).trans rfl; have hcz27_2 : w26.cell? ⟨gb185, 2, none⟩ = some (.slice A0_2 l0_2.length c0_2) := (blk_cell BK185.out 2).trans rfl; have hfz27_0 := blk_frozen BK185.out 0; have hfz27_1 := blk_frozen BK185.out 1; have hfz27_2 := blk_frozen BK185.out 2) | ((with_reducible refine gate_callee (f := 46) rfl ?_); refine goesL_ (some 7) rfl rfl Try.func46 (by kernel_rfl) rfl #[.int .i64 a0_0, .int .i64 a0_1] rfl (by (try simp only [List.map_toArray, List.map_cons, List.map_nil]); first | done | rfl | (simp only [List.length_drop, List.length_take]; rfl)) ?_; (with_reducible refine (impl_isRange.calls k a0_0 a0_1 false _ A2.out).mono ?_); rintro e w28 ⟨rfl, hb⟩; refine ⟨_, rfl, ?_⟩; have n0_ := Aside0.mk (blk_below (g := gb185) (o := .cells #[.int .i64 a0_0, .int .i64 a0_1, .slice A0_2 l0_2.length c0_2] 51 (0, 0)) (by (with_reducible repeat (first | refine blk_drewN ?_ _ | refine blk_drew ?_ | refine blk_alloc ?_ _)); exact BK185.out) hb); have n1_ := Aside0.mk (below_step (by repeat (first | (with_reducible first | exact HB.out | apply below_alloc | apply pw_below_drewN | apply below_drew1 | refine below_set ?_ GE185.out) | exact HB.out)) hb); clear BK185; clear HB; have BK185 := n0_; have HB := n1_; clear n0_ n1_; (try clear hb); (try clear hb2); (try clear hk); (try clear hi)))
    go_ret
    exact ⟨by first | rfl | (simp [errW_none, errW_some] <;> rfl) | (simp [*, errW_none, errW_some] <;> rfl), by repeat (first | (with_reducible first | exact HB.out | apply below_alloc | apply pw_below_drewN | apply below_drew1 | refine below_set ?_ GE185.out) | exact HB.out)⟩

/-! ### laws_eqLabel: function 94 -/
def laws_eqLabel.f (a0_0 : ByteArray) (a0_1 : ByteArray) (a1_0 : ByteArray) (a1_1 : ByteArray) : Option (Bool) := if a0_0.toList = a1_0.toList then (if a0_1.toList = a1_1.toList then (some true) else (some false)) else (some false)
set_option maxHeartbeats 8000000 in
set_option maxRecDepth 100000 in
theorem laws_eqLabel.calls (a0_0 : ByteArray) (a0_1 : ByteArray) (a1_0 : ByteArray) (a1_1 : ByteArray) (r : Bool) (w : World) (h : laws_eqLabel.f a0_0 a0_1 a1_0 a1_1 = some r) :
    Calls Try.prog 94 #[.agg #[.string a0_0, .string a0_1], .agg #[.string a1_0, .string a1_1]] w fun e w' => e = .returned (.bool r) ∧ Below w.heap.size w w' := by
  have hu119 := Try.underlying119
  have HB := Aside0.mk (Below.refl w.heap.size w)
  have H : (if a0_0.toList = a1_0.toList then (if a0_1.toList = a1_1.toList then (some true) else (some false)) else (some false)) = some r := h
  clear h
  by_cases c3 : a0_0.toList = a1_0.toList
  · rw [if_pos c3] at H
    have c3b0 : (a0_0.toList == a1_0.toList) = true := beq_iff_eq.mpr c3
    have c3b1 : (a0_0.toList != a1_0.toList) = false := bne_eq_false_iff_eq.mpr c3
    clear c3
    by_cases c4 : a0_1.toList = a1_1.toList
    · rw [if_pos c4] at H
      have c4b0 : (a0_1.toList == a1_1.toList) = true := beq_iff_eq.mpr c4
      have c4b1 : (a0_1.toList != a1_1.toList) = false := bne_eq_false_iff_eq.mpr c4
      clear c4
      obtain rfl := Option.some.inj H
      go_enter Try.func94, Try.ntmps94
      go_wp2_with (first | ((with_reducible refine gate_dst (N := 2) rfl ?_); refine box_event ?hg (N := 2) ?hd (cs := #[.string a0_0, .string a0_1]) (t := 119) ?hr ?_; (case hd => rfl); (case hg => rfl); (case hr => first | (go_simp; done) | (go_simp; rfl)); intro gb189 hg w5 hbox hb; have n0_ := Aside0.mk (below_step (by repeat (first | (with_reducible first | exact HB.out | apply below_alloc | apply pw_below_drewN | apply below_drew1) | exact HB.out)) hb); have n1_ := Aside0.mk (hbox); have n2_ := Aside0.mk ((by rw [hg]; exact (below_size (by repeat (first | (with_reducible first | exact HB.out | apply below_alloc | apply pw_below_drewN | apply below_drew1) | exact HB.out))) : w.heap.size ≤ gb189)); have n3_ := Aside0.mk ((by rw [hg]; exact (below_size (by repeat (first | (with_reducible first | exact HB.out | apply below_alloc | apply pw_below_drewN | apply below_drew1) | exact HB.out))) : w.heap.size ≤ gb189)); clear HB; have HB := n0_; have BK189 := n1_; have GW189 := n2_; have GE189 := n3_; clear n0_ n1_ n2_ n3_; clear hb hbox hg) | ((with_reducible refine gate_dst (N := 3) rfl ?_); refine box_event ?hg (N := 3) ?hd (cs := #[.string a1_0, .string a1_1]) (t := 119) ?hr ?_; (case hd => rfl); (case hg => rfl); (case hr => first | (go_simp; done) | (go_simp; rfl)); intro gb190 hg w6 hbox hb; have n0_ := Aside0.mk (blk_below (g := gb189) (o := .cells #[.string a0_0, .string a0_1] 119 (0, 0)) (by (with_reducible repeat (first | refine blk_drewN ?_ _ | refine blk_drew ?_ | refine blk_alloc ?_ _)); exact BK189.out) hb); have n1_ := Aside0.mk (below_step (by repeat (first | (with_reducible first | exact HB.out | apply below_alloc | apply pw_below_drewN | apply below_drew1 | refine below_set ?_ GE189.out) | exact HB.out)) hb); have n2_ := Aside0.mk (hbox); have n3_ := Aside0.mk ((by rw [hg]; exact (below_size (by repeat (first | (with_reducible first | exact HB.out | apply below_alloc | apply pw_below_drewN | apply below_drew1 | refine below_set ?_ GE189.out) | exact HB.out))) : w.heap.size ≤ gb190)); have n4_ := Aside0.mk ((by rw [hg]; exact (below_size (by repeat (first | (with_reducible first | exact HB.out | apply below_alloc | apply pw_below_drewN | apply below_drew1 | refine below_set ?_ GE189.out) | exact HB.out))) : w.heap.size ≤ gb190)); have n5_ := Aside0.mk ((by rw [hg]; exact Nat.ne_of_lt (blk_lt (g := gb189) (o := .cells #[.string a0_0, .string a0_1] 119 (0, 0)) (by (with_reducible repeat (first | refine blk_drewN ?_ _ | refine blk_drew ?_ | refine blk_alloc ?_ _)); exact BK189.out)) : gb189 ≠ gb190)); have n6_ := Aside0.mk ((by rw [hg]; exact Nat.ne_of_gt (blk_lt (g := gb189) (o := .cells #[.string a0_0, .string a0_1] 119 (0, 0)) (by (with_reducible repeat (first | refine blk_drewN ?_ _ | refine blk_drew ?_ | refine blk_alloc ?_ _)); exact BK189.out)) : gb190 ≠ gb189)); clear BK189; clear HB; have BK189 := n0_; have HB := n1_; have BK190 := n2_; have GW190 := n3_; have GE190 := n4_; have NB189_190 := n5_; have NB190_189 := n6_; clear n0_ n1_ n2_ n3_ n4_ n5_ n6_; clear hb hbox hg; have hnb7 := NB189_190.out; have hnc7 := NB190_189.out; have hcz8_0 : w6.cell? ⟨gb189, 0, none⟩ = some (.string a0_0) := (blk_cell BK189.out 0).trans rfl; have hcz8_1 : w6.cell? ⟨gb189, 1, none⟩ = some (.string a0_1) := (blk_cell BK189.out 1).trans rfl; have hfz8_0 := blk_frozen BK189.out 0; have hfz8_1 := blk_frozen BK189.out 1; have hcz9_0 : w6.cell? ⟨gb190, 0, none⟩ = some (.string a1_0) := (blk_cell BK190.out 0).trans rfl; have hcz9_1 : w6.cell? ⟨gb190, 1, none⟩ = some (.string a1_1) := (blk_cell BK190.out 1).trans rfl; have hfz9_0 := blk_frozen BK190.out 0; have hfz9_1 := blk_frozen BK190.out 1))
      go_ret
      exact ⟨by first | rfl | (simp [errW_none, errW_some] <;> rfl) | (simp [*, errW_none, errW_some] <;> rfl), by repeat (first | (with_reducible first | exact HB.out | apply below_alloc | apply pw_below_drewN | apply below_drew1 | refine below_set ?_ GE189.out | refine below_set ?_ GE190.out) | exact HB.out)⟩
    · rw [if_neg c4] at H
      have c4b0 : (a0_1.toList == a1_1.toList) = false := beq_eq_false_iff_ne.mpr c4
      have c4b1 : (a0_1.toList != a1_1.toList) = true := bne_iff_ne.mpr c4
      obtain rfl := Option.some.inj H
      go_enter Try.func94, Try.ntmps94
      go_wp2_with (first | ((with_reducible refine gate_dst (N := 2) rfl ?_); refine box_event ?hg (N := 2) ?hd (cs := #[.string a0_0, .string a0_1]) (t := 119) ?hr ?_; (case hd => rfl); (case hg => rfl); (case hr => first | (go_simp; done) | (go_simp; rfl)); intro gb189 hg w10 hbox hb; have n0_ := Aside0.mk (below_step (by repeat (first | (with_reducible first | exact HB.out | apply below_alloc | apply pw_below_drewN | apply below_drew1) | exact HB.out)) hb); have n1_ := Aside0.mk (hbox); have n2_ := Aside0.mk ((by rw [hg]; exact (below_size (by repeat (first | (with_reducible first | exact HB.out | apply below_alloc | apply pw_below_drewN | apply below_drew1) | exact HB.out))) : w.heap.size ≤ gb189)); have n3_ := Aside0.mk ((by rw [hg]; exact (below_size (by repeat (first | (with_reducible first | exact HB.out | apply below_alloc | apply pw_below_drewN | apply below_drew1) | exact HB.out))) : w.heap.size ≤ gb189)); clear HB; have HB := n0_; have BK189 := n1_; have GW189 := n2_; have GE189 := n3_; clear n0_ n1_ n2_ n3_; clear hb hbox hg) | ((with_reducible refine gate_dst (N := 3) rfl ?_); refine box_event ?hg (N := 3) ?hd (cs := #[.string a1_0, .string a1_1]) (t := 119) ?hr ?_; (case hd => rfl); (case hg => rfl); (case hr => first | (go_simp; done) | (go_simp; rfl)); intro gb190 hg w11 hbox hb; have n0_ := Aside0.mk (blk_below (g := gb189) (o := .cells #[.string a0_0, .string a0_1] 119 (0, 0)) (by (with_reducible repeat (first | refine blk_drewN ?_ _ | refine blk_drew ?_ | refine blk_alloc ?_ _)); exact BK189.out) hb); have n1_ := Aside0.mk (below_step (by repeat (first | (with_reducible first | exact HB.out | apply below_alloc | apply pw_below_drewN | apply below_drew1 | refine below_set ?_ GE189.out) | exact HB.out)) hb); have n2_ := Aside0.mk (hbox); have n3_ := Aside0.mk ((by rw [hg]; exact (below_size (by repeat (first | (with_reducible first | exact HB.out | apply below_alloc | apply pw_below_drewN | apply below_drew1 | refine below_set ?_ GE189.out) | exact HB.out))) : w.heap.size ≤ gb190)); have n4_ := Aside0.mk ((by rw [hg]; exact (below_size (by repeat (first | (with_reducible first | exact HB.out | apply below_alloc | apply pw_below_drewN | apply below_drew1 | refine below_set ?_ GE189.out) | exact HB.out))) : w.heap.size ≤ gb190)); have n5_ := Aside0.mk ((by rw [hg]; exact Nat.ne_of_lt (blk_lt (g := gb189) (o := .cells #[.string a0_0, .string a0_1] 119 (0, 0)) (by (with_reducible repeat (first | refine blk_drewN ?_ _ | refine blk_drew ?_ | refine blk_alloc ?_ _)); exact BK189.out)) : gb189 ≠ gb190)); have n6_ := Aside0.mk ((by rw [hg]; exact Nat.ne_of_gt (blk_lt (g := gb189) (o := .cells #[.string a0_0, .string a0_1] 119 (0, 0)) (by (with_reducible repeat (first | refine blk_drewN ?_ _ | refine blk_drew ?_ | refine blk_alloc ?_ _)); exact BK189.out)) : gb190 ≠ gb189)); clear BK189; clear HB; have BK189 := n0_; have HB := n1_; have BK190 := n2_; have GW190 := n3_; have GE190 := n4_; have NB189_190 := n5_; have NB190_189 := n6_; clear n0_ n1_ n2_ n3_ n4_ n5_ n6_; clear hb hbox hg; have hnb12 := NB189_190.out; have hnc12 := NB190_189.out; have hcz13_0 : w11.cell? ⟨gb189, 0, none⟩ = some (.string a0_0) := (blk_cell BK189.out 0).trans rfl; have hcz13_1 : w11.cell? ⟨gb189, 1, none⟩ = some (.string a0_1) := (blk_cell BK189.out 1).trans rfl; have hfz13_0 := blk_frozen BK189.out 0; have hfz13_1 := blk_frozen BK189.out 1; have hcz14_0 : w11.cell? ⟨gb190, 0, none⟩ = some (.string a1_0) := (blk_cell BK190.out 0).trans rfl; have hcz14_1 : w11.cell? ⟨gb190, 1, none⟩ = some (.string a1_1) := (blk_cell BK190.out 1).trans rfl; have hfz14_0 := blk_frozen BK190.out 0; have hfz14_1 := blk_frozen BK190.out 1))
      go_ret
      exact ⟨by first | rfl | (simp [errW_none, errW_some] <;> rfl) | (simp [*, errW_none, errW_some] <;> rfl), by repeat (first | (with_reducible first | exact HB.out | apply below_alloc | apply pw_below_drewN | apply below_drew1 | refine below_set ?_ GE189.out | refine below_set ?_ GE190.out) | exact HB.out)⟩
  · rw [if_neg c3] at H
    have c3b0 : (a0_0.toList == a1_0.toList) = false := beq_eq_false_iff_ne.mpr c3
    have c3b1 : (a0_0.toList != a1_0.toList) = true := bne_iff_ne.mpr c3
    obtain rfl := Option.some.inj H
    go_enter Try.func94, Try.ntmps94
    go_wp2_with (first | ((with_reducible refine gate_dst (N := 2) rfl ?_); refine box_event ?hg (N := 2) ?hd (cs := #[.string a0_0, .string a0_1]) (t := 119) ?hr ?_; (case hd => rfl); (case hg => rfl); (case hr => first | (go_simp; done) | (go_simp; rfl)); intro gb189 hg w15 hbox hb; have n0_ := Aside0.mk (below_step (by repeat (first | (with_reducible first | exact HB.out | apply below_alloc | apply pw_below_drewN | apply below_drew1) | exact HB.out)) hb); have n1_ := Aside0.mk (hbox); have n2_ := Aside0.mk ((by rw [hg]; exact (below_size (by repeat (first | (with_reducible first | exact HB.out | apply below_alloc | apply pw_below_drewN | apply below_drew1) | exact HB.out))) : w.heap.size ≤ gb189)); have n3_ := Aside0.mk ((by rw [hg]; exact (below_size (by repeat (first | (with_reducible first | exact HB.out | apply below_alloc | apply pw_below_drewN | apply below_drew1) | exact HB.out))) : w.heap.size ≤ gb189)); clear HB; have HB := n0_; have BK189 := n1_; have GW189 := n2_; have GE189 := n3_; clear n0_ n1_ n2_ n3_; clear hb hbox hg) | ((with_reducible refine gate_dst (N := 3) rfl ?_); refine box_event ?hg (N := 3) ?hd (cs := #[.string a1_0, .string a1_1]) (t := 119) ?hr ?_; (case hd => rfl); (case hg => rfl); (case hr => first | (go_simp; done) | (go_simp; rfl)); intro gb190 hg w16 hbox hb; have n0_ := Aside0.mk (blk_below (g := gb189) (o := .cells #[.string a0_0, .string a0_1] 119 (0, 0)) (by (with_reducible repeat (first | refine blk_drewN ?_ _ | refine blk_drew ?_ | refine blk_alloc ?_ _)); exact BK189.out) hb); have n1_ := Aside0.mk (below_step (by repeat (first | (with_reducible first | exact HB.out | apply below_alloc | apply pw_below_drewN | apply below_drew1 | refine below_set ?_ GE189.out) | exact HB.out)) hb); have n2_ := Aside0.mk (hbox); have n3_ := Aside0.mk ((by rw [hg]; exact (below_size (by repeat (first | (with_reducible first | exact HB.out | apply below_alloc | apply pw_below_drewN | apply below_drew1 | refine below_set ?_ GE189.out) | exact HB.out))) : w.heap.size ≤ gb190)); have n4_ := Aside0.mk ((by rw [hg]; exact (below_size (by repeat (first | (with_reducible first | exact HB.out | apply below_alloc | apply pw_below_drewN | apply below_drew1 | refine below_set ?_ GE189.out) | exact HB.out))) : w.heap.size ≤ gb190)); have n5_ := Aside0.mk ((by rw [hg]; exact Nat.ne_of_lt (blk_lt (g := gb189) (o := .cells #[.string a0_0, .string a0_1] 119 (0, 0)) (by (with_reducible repeat (first | refine blk_drewN ?_ _ | refine blk_drew ?_ | refine blk_alloc ?_ _)); exact BK189.out)) : gb189 ≠ gb190)); have n6_ := Aside0.mk ((by rw [hg]; exact Nat.ne_of_gt (blk_lt (g := gb189) (o := .cells #[.string a0_0, .string a0_1] 119 (0, 0)) (by (with_reducible repeat (first | refine blk_drewN ?_ _ | refine blk_drew ?_ | refine blk_alloc ?_ _)); exact BK189.out)) : gb190 ≠ gb189)); clear BK189; clear HB; have BK189 := n0_; have HB := n1_; have BK190 := n2_; have GW190 := n3_; have GE190 := n4_; have NB189_190 := n5_; have NB190_189 := n6_; clear n0_ n1_ n2_ n3_ n4_ n5_ n6_; clear hb hbox hg; have hnb17 := NB189_190.out; have hnc17 := NB190_189.out; have hcz18_0 : w16.cell? ⟨gb189, 0, none⟩ = some (.string a0_0) := (blk_cell BK189.out 0).trans rfl; have hcz18_1 : w16.cell? ⟨gb189, 1, none⟩ = some (.string a0_1) := (blk_cell BK189.out 1).trans rfl; have hfz18_0 := blk_frozen BK189.out 0; have hfz18_1 := blk_frozen BK189.out 1; have hcz19_0 : w16.cell? ⟨gb190, 0, none⟩ = some (.string a1_0) := (blk_cell BK190.out 0).trans rfl; have hcz19_1 : w16.cell? ⟨gb190, 1, none⟩ = some (.string a1_1) := (blk_cell BK190.out 1).trans rfl; have hfz19_0 := blk_frozen BK190.out 0; have hfz19_1 := blk_frozen BK190.out 1))
    go_ret
    exact ⟨by first | rfl | (simp [errW_none, errW_some] <;> rfl) | (simp [*, errW_none, errW_some] <;> rfl), by repeat (first | (with_reducible first | exact HB.out | apply below_alloc | apply pw_below_drewN | apply below_drew1 | refine below_set ?_ GE189.out | refine below_set ?_ GE190.out) | exact HB.out)⟩

end Go.Proofs.Ytfipeogppcllnaa.QFnExactBlockOk
