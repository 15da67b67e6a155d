-- Written by wip/tools/mk.py (this session's program, which runs the kit's print): functions, and proofs that the machine's calls do what they say.
import Derived.Test.YtfipeogppcllnaaQFnExactBlockOkx0
namespace Go.Proofs.Ytfipeogppcllnaa.QFnExactBlockOk
open Go.RowKit Go.Proofs.YtfipeogppcllnaaW.PrintWords Go.Proofs.YtfipeogppcllnaaW.PrintLast Go.Proofs.YtfipeogppcllnaaW.PrintMore
attribute [local go_sem] IntKind.wrap_u8 max2_int min2_int max_two min_two max_three min_three max_four min_four   -- for this text's walks alone
set_option linter.unusedVariables false
set_option linter.unusedSimpArgs false

/-! ### laws_szLabel: function 92 -/
def laws_szLabel.f (a0_0 : ByteArray) (a0_1 : ByteArray) (a1 : Int) : Option (Int) := if (wrap64 (a1 - (a0_0.size : Int))) < 0 then (some (-1)) else (if (wrap64 ((wrap64 (a1 - (a0_0.size : Int))) - (a0_1.size : Int))) < 0 then (some (-1)) else (some (wrap64 ((wrap64 (a1 - (a0_0.size : Int))) - (a0_1.size : Int)))))
set_option maxHeartbeats 8000000 in
set_option maxRecDepth 100000 in
theorem laws_szLabel.calls (a0_0 : ByteArray) (a0_1 : ByteArray) (a1 : Int) (r : Int) (w : World) (h : laws_szLabel.f a0_0 a0_1 a1 = some r) :
    Calls Try.prog 92 #[.agg #[.string a0_0, .string a0_1], .int .i64 a1] w fun e w' => e = .returned (.int .i64 r) ∧ Below w.heap.size w w' := by
  have hu140 := Try.underlying140
  have HB := Aside0.mk (Below.refl w.heap.size w)
  have H : (if (wrap64 (a1 - (a0_0.size : Int))) < 0 then (some (-1)) else (if (wrap64 ((wrap64 (a1 - (a0_0.size : Int))) - (a0_1.size : Int))) < 0 then (some (-1)) else (some (wrap64 ((wrap64 (a1 - (a0_0.size : Int))) - (a0_1.size : Int)))))) = some r := h
  clear h
  by_cases c3 : (wrap64 (a1 - (a0_0.size : Int))) < 0
  · rw [if_pos c3] at H
    have c3b0 : decide ((wrap64 (a1 - (a0_0.size : Int))) < 0) = true := decide_eq_true c3
    clear c3
    obtain rfl := Option.some.inj H
    go_enter Try.func92, Try.ntmps92
    go_wp2_with (first | ((with_reducible refine gate_dst (N := 2) rfl ?_); refine box_event ?hg (N := 2) ?hd (cs := #[.string a0_0, .string a0_1]) (t := 140) ?hr ?_; (case hd => rfl); (case hg => rfl); (case hr => first | (go_simp; done) | (go_simp; rfl)); intro gb101 hg w4 hbox hb; have n0_ := Aside0.mk (below_step (by repeat (first | (with_reducible first | exact HB.out | apply below_alloc | apply pw_below_drewN | apply below_drew1) | exact HB.out)) hb); have n1_ := Aside0.mk (hbox); have n2_ := Aside0.mk ((by rw [hg]; exact (below_size (by repeat (first | (with_reducible first | exact HB.out | apply below_alloc | apply pw_below_drewN | apply below_drew1) | exact HB.out))) : w.heap.size ≤ gb101)); have n3_ := Aside0.mk ((by rw [hg]; exact (below_size (by repeat (first | (with_reducible first | exact HB.out | apply below_alloc | apply pw_below_drewN | apply below_drew1) | exact HB.out))) : w.heap.size ≤ gb101)); clear HB; have HB := n0_; have BK101 := n1_; have GW101 := n2_; have GE101 := n3_; clear n0_ n1_ n2_ n3_; clear hb hbox hg; have hcz5_0 : w4.cell? ⟨gb101, 0, none⟩ = some (.string a0_0) := (blk_cell BK101.out 0).trans rfl; have hcz5_1 : w4.cell? ⟨gb101, 1, none⟩ = some (.string a0_1) := (blk_cell BK101.out 1).trans rfl; have hfz5_0 := blk_frozen BK101.out 0; have hfz5_1 := blk_frozen BK101.out 1))
    go_ret
    exact ⟨by first | rfl | (simp [errW_none, errW_some] <;> rfl) | (simp [*, errW_none, errW_some] <;> rfl), by repeat (first | (with_reducible first | exact HB.out | apply below_alloc | apply pw_below_drewN | apply below_drew1 | refine below_set ?_ GE101.out) | exact HB.out)⟩
  · rw [if_neg c3] at H
    have c3b0 : decide ((wrap64 (a1 - (a0_0.size : Int))) < 0) = false := decide_eq_false c3
    clear c3
    by_cases c6 : (wrap64 ((wrap64 (a1 - (a0_0.size : Int))) - (a0_1.size : Int))) < 0
    · rw [if_pos c6] at H
      have c6b0 : decide ((wrap64 ((wrap64 (a1 - (a0_0.size : Int))) - (a0_1.size : Int))) < 0) = true := decide_eq_true c6
      clear c6
      obtain rfl := Option.some.inj H
      go_enter Try.func92, Try.ntmps92
      go_wp2_with (first | ((with_reducible refine gate_dst (N := 2) rfl ?_); refine box_event ?hg (N := 2) ?hd (cs := #[.string a0_0, .string a0_1]) (t := 140) ?hr ?_; (case hd => rfl); (case hg => rfl); (case hr => first | (go_simp; done) | (go_simp; rfl)); intro gb101 hg w7 hbox hb; have n0_ := Aside0.mk (below_step (by repeat (first | (with_reducible first | exact HB.out | apply below_alloc | apply pw_below_drewN | apply below_drew1) | exact HB.out)) hb); have n1_ := Aside0.mk (hbox); have n2_ := Aside0.mk ((by rw [hg]; exact (below_size (by repeat (first | (with_reducible first | exact HB.out | apply below_alloc | apply pw_below_drewN | apply below_drew1) | exact HB.out))) : w.heap.size ≤ gb101)); have n3_ := Aside0.mk ((by rw [hg]; exact (below_size (by repeat (first | (with_reducible first | exact HB.out | apply below_alloc | apply pw_below_drewN | apply below_drew1) | exact HB.out))) : w.heap.size ≤ gb101)); clear HB; have HB := n0_; have BK101 := n1_; have GW101 := n2_; have GE101 := n3_; clear n0_ n1_ n2_ n3_; clear hb hbox hg; have hcz8_0 : w7.cell? ⟨gb101, 0, none⟩ = some (.string a0_0) := (blk_cell BK101.out 0).trans rfl; have hcz8_1 : w7.cell? ⟨gb101, 1, none⟩ = some (.string a0_1) := (blk_cell BK101.out 1).trans rfl; have hfz8_0 := blk_frozen BK101.out 0; have hfz8_1 := blk_frozen BK101.out 1))
      go_ret
      exact ⟨by first | rfl | (simp [errW_none, errW_some] <;> rfl) | (simp [*, errW_none, errW_some] <;> rfl), by repeat (first | (with_reducible first | exact HB.out | apply below_alloc | apply pw_below_drewN | apply below_drew1 | refine below_set ?_ GE101.out) | exact HB.out)⟩
    · rw [if_neg c6] at H
      have c6b0 : decide ((wrap64 ((wrap64 (a1 - (a0_0.size : Int))) - (a0_1.size : Int))) < 0) = false := decide_eq_false c6
      clear c6
      obtain rfl := Option.some.inj H
      go_enter Try.func92, Try.ntmps92
      go_wp2_with (first | ((with_reducible refine gate_dst (N := 2) rfl ?_); refine box_event ?hg (N := 2) ?hd (cs := #[.string a0_0, .string a0_1]) (t := 140) ?hr ?_; (case hd => rfl); (case hg => rfl); (case hr => first | (go_simp; done) | (go_simp; rfl)); intro gb101 hg w9 hbox hb; have n0_ := Aside0.mk (below_step (by repeat (first | (with_reducible first | exact HB.out | apply below_alloc | apply pw_below_drewN | apply below_drew1) | exact HB.out)) hb); have n1_ := Aside0.mk (hbox); have n2_ := Aside0.mk ((by rw [hg]; exact (below_size (by repeat (first | (with_reducible first | exact HB.out | apply below_alloc | apply pw_below_drewN | apply below_drew1) | exact HB.out))) : w.heap.size ≤ gb101)); have n3_ := Aside0.mk ((by rw [hg]; exact (below_size (by repeat (first | (with_reducible first | exact HB.out | apply below_alloc | apply pw_below_drewN | apply below_drew1) | exact HB.out))) : w.heap.size ≤ gb101)); clear HB; have HB := n0_; have BK101 := n1_; have GW101 := n2_; have GE101 := n3_; clear n0_ n1_ n2_ n3_; clear hb hbox hg; have hcz10_0 : w9.cell? ⟨gb101, 0, none⟩ = some (.string a0_0) := (blk_cell BK101.out 0).trans rfl; have hcz10_1 : w9.cell? ⟨gb101, 1, none⟩ = some (.string a0_1) := (blk_cell BK101.out 1).trans rfl; have hfz10_0 := blk_frozen BK101.out 0; have hfz10_1 := blk_frozen BK101.out 1))
      go_ret
      exact ⟨by first | rfl | (simp [errW_none, errW_some] <;> rfl) | (simp [*, errW_none, errW_some] <;> rfl), by repeat (first | (with_reducible first | exact HB.out | apply below_alloc | apply pw_below_drewN | apply below_drew1 | refine below_set ?_ GE101.out) | exact HB.out)⟩

/-! ### laws_szLabelS: function 76 -/
def laws_szLabelS.l0 : Nat → List (S140) → Int → Int → Option (Int)
  | 0, _, _, _ => none
  | k + 1, x0, x1, x5 => if x5 < (x0.length : Int) then (if 0 ≤ x5 then ((laws_szLabel.f ((rd_T140 x0 x5).f0) ((rd_T140 x0 x5).f1) x1).bind fun t103 => (if t103 < 0 then (some (-1)) else (laws_szLabelS.l0 k x0 t103 (wrap64 (x5 + 1))))) else (none)) else (some x1)
def laws_szLabelS.f (k : Nat) (l0 : List (S140)) (a1 : Int) : Option (Int) := if (wrap64 (a1 - (l0.length : Int))) < 0 then (some (-1)) else (laws_szLabelS.l0 k l0 (wrap64 (a1 - (l0.length : Int))) 0)
theorem laws_szLabelS.mono_l : ∀ k, (∀ y0 y1 y2, LeO (laws_szLabelS.l0 k y0 y1 y2) (laws_szLabelS.l0 (k + 1) y0 y1 y2))
  | 0 => fun _ _ _ r h => by simp [laws_szLabelS.l0] at h
  | k + 1 => by
    have ih0 := laws_szLabelS.mono_l k
    · intro y0 y1 y2
      unfold laws_szLabelS.l0
      repeat' first
      | (with_reducible exact ih0 _ _ _)
      | (with_reducible exact LeO.refl _)
      | (with_reducible exact LeO.none _)
      | (with_reducible refine LeO.ite ?_ ?_)
      | (with_reducible refine LeO.bind ?_ (fun _ => ?_))
      | exact ih0 _ _ _
      | exact LeO.none _
      | refine LeO.ite ?_ ?_
      | refine LeO.bind ?_ (fun _ => ?_)
theorem laws_szLabelS.mono : ∀ a0 a1 k, LeO (laws_szLabelS.f k a0 a1) (laws_szLabelS.f (k + 1) a0 a1) := by
  intro a0 a1 k
  have ih0 := laws_szLabelS.mono_l k
  unfold laws_szLabelS.f
  repeat' first
      | (with_reducible exact ih0 _ _ _)
      | (with_reducible exact LeO.refl _)
      | (with_reducible exact LeO.none _)
      | (with_reducible refine LeO.ite ?_ ?_)
      | (with_reducible refine LeO.bind ?_ (fun _ => ?_))
      | exact ih0 _ _ _
      | exact LeO.none _
      | refine LeO.ite ?_ ?_
      | refine LeO.bind ?_ (fun _ => ?_)
set_option maxHeartbeats 8000000 in
set_option maxRecDepth 100000 in
theorem laws_szLabelS.calls (k : Nat) (A0 : Option Addr) (c0 : Nat) (l0 : List (S140)) (a1 : Int) (r : Int) (w : World) (hr0 : Kd.C k140 w A0 l0.length l0) (hc0 : l0.length ≤ c0) (h : laws_szLabelS.f k l0 a1 = some r) :
    Calls Try.prog 76 #[.slice A0 l0.length c0, .int .i64 a1] w fun e w' => e = .returned (.int .i64 r) ∧ Below w.heap.size w w' := by
  have hu140 := Try.underlying140
  have HR0 := Aside0.mk hr0
  have HC0 := Aside0.mk hc0
  clear hr0 hc0
  have HB := Aside0.mk (Below.refl w.heap.size w)
  have H : (if (wrap64 (a1 - (l0.length : Int))) < 0 then (some (-1)) else (laws_szLabelS.l0 k l0 (wrap64 (a1 - (l0.length : Int))) 0)) = some r := h
  clear h
  by_cases c3 : (wrap64 (a1 - (l0.length : Int))) < 0
  · rw [if_pos c3] at H
    have c3b0 : decide ((wrap64 (a1 - (l0.length : Int))) < 0) = true := decide_eq_true c3
    clear c3
    obtain rfl := Option.some.inj H
    go_enter Try.func76, Try.ntmps76
    go_wp2
    go_ret
    exact ⟨by first | rfl | (simp [errW_none, errW_some] <;> rfl) | (simp [*, errW_none, errW_some] <;> rfl), by repeat (first | (with_reducible first | exact HB.out | apply below_alloc | apply pw_below_drewN | apply below_drew1) | exact HB.out)⟩
  · rw [if_neg c3] at H
    have c3b0 : decide ((wrap64 (a1 - (l0.length : Int))) < 0) = false := decide_eq_false c3
    clear c3
    have H' := Aside0.mk H
    clear H
    go_enter Try.func76, Try.ntmps76
    go_wp2
    go_loopg [1, 5] k (fun kq v1 v5 w' => ∃ (x1_1 : Int) (x5_1 : Int), v1 = .int .i64 x1_1 ∧ v5 = .int .i64 x5_1 ∧ Aside0 (laws_szLabelS.l0 kq l0 x1_1 x5_1 = some r) ∧ Aside0 (kq ≤ k) ∧ Aside0 (Below w.heap.size w w'))
    case atStart => exact ⟨(wrap64 (a1 - (l0.length : Int))), (0), (by first | rfl | (simp; done) | (simp [*]; done) | (simp only [my_ne_nil]; rfl)), (by first | rfl | (simp; done) | (simp [*]; done) | (simp only [my_ne_nil]; rfl)), H', ⟨Nat.le_refl _⟩, ⟨by repeat (first | (with_reducible first | exact HB.out | apply below_alloc | apply pw_below_drewN | apply below_drew1) | exact HB.out)⟩⟩
    case round =>
      clear H'
      try clear p2
      try clear c3
      try clear c3b0
      obtain ⟨x1_1, x5_1, rfl, rfl, HA, HK1, HB⟩ := hrel
      cases gk with
      | zero => exact absurd HA.out (by simp [laws_szLabelS.l0])
      | succ k1 =>
        have H := HA.out
        clear HA
        simp only [laws_szLabelS.l0] at H
        by_cases c4 : x5_1 < (l0.length : Int)
        · rw [if_pos c4] at H
          have c4b0 : decide (x5_1 < (l0.length : Int)) = true := decide_eq_true c4
          clear c4
          by_cases c5 : 0 ≤ x5_1
          · rw [if_pos c5] at H
            have c5b0 : decide (0 ≤ x5_1) = true := decide_eq_true c5
            clear c5
            replace H := Option.bind_eq_some_iff.mp H
            obtain ⟨t103, A60, H⟩ := H
            replace H : (if t103 < 0 then (some (-1)) else (laws_szLabelS.l0 k1 l0 t103 (wrap64 (x5_1 + 1)))) = some r := H
            have A6 := Aside0.mk A60
            clear A60
            by_cases c7 : t103 < 0
            · rw [if_pos c7] at H
              have c7b0 : decide (t103 < 0) = true := decide_eq_true c7
              clear c7
              obtain rfl := Option.some.inj H
              have p102 : 0 ≤ (x5_1 : Int) := of_decide_eq_true (by first | (with_reducible assumption) | assumption)
              have q102 : x5_1 < (l0.length : Int) := of_decide_eq_true (by first | (with_reducible assumption) | assumption)
              obtain ⟨ad102, e102, hx102_0, hx102_1⟩ := at_T140 HR0.out x5_1 p102 q102
              cases e102
              replace hx102_0 := (HB.out.cell (World.block_lt_of_cell? w _ hx102_0)).trans hx102_0
              replace hx102_1 := (HB.out.cell (World.block_lt_of_cell? w _ hx102_1)).trans hx102_1
              replace p102 := eq_true p102
              replace q102 := eq_true q102
              go_wp2_with (first | ((with_reducible refine gate_callee (f := 92) rfl ?_); refine goesL_ (some 23) rfl rfl Try.func92 (by kernel_rfl) rfl #[.agg #[.string ((rd_T140 l0 x5_1).f0), .string ((rd_T140 l0 x5_1).f1)], .int .i64 x1_1] rfl (by (try simp only [List.map_toArray, List.map_cons, List.map_nil]); first | done | rfl | (simp only [List.length_drop, List.length_take]; rfl)) ?_; (with_reducible refine (laws_szLabel.calls ((rd_T140 l0 x5_1).f0) ((rd_T140 l0 x5_1).f1) x1_1 t103 _ A6.out).mono ?_); rintro e w8 ⟨rfl, hb⟩; refine ⟨_, rfl, ?_⟩; have n0_ := Aside0.mk (below_step (by repeat (first | (with_reducible first | exact HB.out | apply below_alloc | apply pw_below_drewN | apply below_drew1) | exact HB.out)) hb); clear HB; have HB := n0_; clear n0_; (try clear hb); (try clear hb2); (try clear hk); (try clear hi)))
              go_ret
              exact ⟨by first | rfl | (simp [errW_none, errW_some] <;> rfl) | (simp [*, errW_none, errW_some] <;> rfl), by repeat (first | (with_reducible first | exact HB.out | apply below_alloc | apply pw_below_drewN | apply below_drew1) | exact HB.out)⟩
            · rw [if_neg c7] at H
              have c7b0 : decide (t103 < 0) = false := decide_eq_false c7
              clear c7
              have H' := Aside0.mk H
              clear H
              have p102 : 0 ≤ (x5_1 : Int) := of_decide_eq_true (by first | (with_reducible assumption) | assumption)
              have q102 : x5_1 < (l0.length : Int) := of_decide_eq_true (by first | (with_reducible assumption) | assumption)
              obtain ⟨ad102, e102, hx102_0, hx102_1⟩ := at_T140 HR0.out x5_1 p102 q102
              cases e102
              replace hx102_0 := (HB.out.cell (World.block_lt_of_cell? w _ hx102_0)).trans hx102_0
              replace hx102_1 := (HB.out.cell (World.block_lt_of_cell? w _ hx102_1)).trans hx102_1
              replace p102 := eq_true p102
              replace q102 := eq_true q102
              go_wp2_with (first | ((with_reducible refine gate_callee (f := 92) rfl ?_); refine goesL_ (some 23) rfl rfl Try.func92 (by kernel_rfl) rfl #[.agg #[.string ((rd_T140 l0 x5_1).f0), .string ((rd_T140 l0 x5_1).f1)], .int .i64 x1_1] rfl (by (try simp only [List.map_toArray, List.map_cons, List.map_nil]); first | done | rfl | (simp only [List.length_drop, List.length_take]; rfl)) ?_; (with_reducible refine (laws_szLabel.calls ((rd_T140 l0 x5_1).f0) ((rd_T140 l0 x5_1).f1) x1_1 t103 _ A6.out).mono ?_); rintro e w9 ⟨rfl, hb⟩; refine ⟨_, rfl, ?_⟩; have n0_ := Aside0.mk (below_step (by repeat (first | (with_reducible first | exact HB.out | apply below_alloc | apply pw_below_drewN | apply below_drew1) | exact HB.out)) hb); clear HB; have HB := n0_; clear n0_; (try clear hb); (try clear hb2); (try clear hk); (try clear hi)))
              go_roundg k1
              case measure => have := HK1.out; omega
              case rel => exact ⟨(t103), (wrap64 (x5_1 + 1)), (by first | rfl | (simp; done) | (simp [*]; done) | (simp only [my_ne_nil]; rfl)), (by first | rfl | (simp; done) | (simp [*]; done) | (simp only [my_ne_nil]; rfl)), H', ⟨by have := HK1.out; omega⟩, ⟨by repeat (first | (with_reducible first | exact HB.out | apply below_alloc | apply pw_below_drewN | apply below_drew1) | exact HB.out)⟩⟩
          · rw [if_neg c5] at H
            exact absurd H (by simp)
        · rw [if_neg c4] at H
          have c4b0 : decide (x5_1 < (l0.length : Int)) = false := decide_eq_false c4
          clear c4
          obtain rfl := Option.some.inj H
          go_wp2
          go_ret
          exact ⟨by first | rfl | (simp [errW_none, errW_some] <;> rfl) | (simp [*, errW_none, errW_some] <;> rfl), by repeat (first | (with_reducible first | exact HB.out | apply below_alloc | apply pw_below_drewN | apply below_drew1) | exact HB.out)⟩

/-! ### laws_szSampleS: function 81 -/
def laws_szSampleS.f (l0 : List (S144)) (a1 : Int) : Option (Int) := if (wrap64 (a1 - (l0.length : Int))) < 0 then (some (-1)) else (some (wrap64 (a1 - (l0.length : Int))))
set_option maxHeartbeats 8000000 in
set_option maxRecDepth 100000 in
theorem laws_szSampleS.calls (A0 : Option Addr) (c0 : Nat) (l0 : List (S144)) (a1 : Int) (r : Int) (w : World) (hr0 : Kd.C k144 w A0 l0.length l0) (hc0 : l0.length ≤ c0) (h : laws_szSampleS.f l0 a1 = some r) :
    Calls Try.prog 81 #[.slice A0 l0.length c0, .int .i64 a1] w fun e w' => e = .returned (.int .i64 r) ∧ Drawn0 w w' := by
  have HR0 := Aside0.mk hr0
  have HC0 := Aside0.mk hc0
  clear hr0 hc0
  have H : (if (wrap64 (a1 - (l0.length : Int))) < 0 then (some (-1)) else (some (wrap64 (a1 - (l0.length : Int))))) = some r := h
  clear h
  by_cases c3 : (wrap64 (a1 - (l0.length : Int))) < 0
  · rw [if_pos c3] at H
    have c3b0 : decide ((wrap64 (a1 - (l0.length : Int))) < 0) = true := decide_eq_true c3
    clear c3
    obtain rfl := Option.some.inj H
    go_enter Try.func81, Try.ntmps81
    go_wp2
    go_ret
    exact ⟨by first | rfl | (simp; done) | (simp [*]; done) | (simp only [my_ne_nil]; rfl), by repeat (first | exact Drawn0.refl _ | apply Drawn0.step)⟩
  · rw [if_neg c3] at H
    have c3b0 : decide ((wrap64 (a1 - (l0.length : Int))) < 0) = false := decide_eq_false c3
    clear c3
    obtain rfl := Option.some.inj H
    go_enter Try.func81, Try.ntmps81
    go_wp2
    go_ret
    exact ⟨by first | rfl | (simp; done) | (simp [*]; done) | (simp only [my_ne_nil]; rfl), by repeat (first | exact Drawn0.refl _ | apply Drawn0.step)⟩

/-! ### laws_szRow: function 65 -/
def laws_szRow.f (k : Nat) (l0_0 : List (S140)) (l0_1 : List (S144)) (a1 : Int) : Option (Int) := (laws_szLabelS.f k l0_0 a1).bind fun t105 => (if t105 < 0 then (some (-1)) else ((laws_szSampleS.f l0_1 t105).bind fun t106 => (if t106 < 0 then (some (-1)) else (some t106))))
theorem laws_szRow.mono : ∀ a0 a1 a2 k, LeO (laws_szRow.f k a0 a1 a2) (laws_szRow.f (k + 1) a0 a1 a2) := by
  intro a0 a1 a2 k
  unfold laws_szRow.f
  repeat' first
      | (with_reducible exact laws_szLabelS.mono _ _ _)
      | (with_reducible exact LeO.refl _)
      | (with_reducible exact LeO.none _)
      | (with_reducible refine LeO.ite ?_ ?_)
      | (with_reducible refine LeO.bind ?_ (fun _ => ?_))
      | exact laws_szLabelS.mono _ _ _
      | exact LeO.none _
      | refine LeO.ite ?_ ?_
      | refine LeO.bind ?_ (fun _ => ?_)
set_option maxHeartbeats 8000000 in
set_option maxRecDepth 100000 in
theorem laws_szRow.calls (k : Nat) (A0_0 : Option Addr) (c0_0 : Nat) (l0_0 : List (S140)) (A0_1 : Option Addr) (c0_1 : Nat) (l0_1 : List (S144)) (a1 : Int) (r : Int) (w : World) (hr0_0 : Kd.C k140 w A0_0 l0_0.length l0_0) (hc0_0 : l0_0.length ≤ c0_0) (hr0_1 : Kd.C k144 w A0_1 l0_1.length l0_1) (hc0_1 : l0_1.length ≤ c0_1) (h : laws_szRow.f k l0_0 l0_1 a1 = some r) :
    Calls Try.prog 65 #[.agg #[.slice A0_0 l0_0.length c0_0, .slice A0_1 l0_1.length c0_1], .int .i64 a1] w fun e w' => e = .returned (.int .i64 r) ∧ Below w.heap.size w w' := by
  have hu105 := Try.underlying105
  have HR0_0 := Aside0.mk hr0_0
  have HC0_0 := Aside0.mk hc0_0
  clear hr0_0 hc0_0
  have HR0_1 := Aside0.mk hr0_1
  have HC0_1 := Aside0.mk hc0_1
  clear hr0_1 hc0_1
  have HB := Aside0.mk (Below.refl w.heap.size w)
  have H : ((laws_szLabelS.f k l0_0 a1).bind fun t105 => (if t105 < 0 then (some (-1)) else ((laws_szSampleS.f l0_1 t105).bind fun t106 => (if t106 < 0 then (some (-1)) else (some t106))))) = some r := h
  clear h
  replace H := Option.bind_eq_some_iff.mp H
  obtain ⟨t105, A30, H⟩ := H
  replace H : (if t105 < 0 then (some (-1)) else ((laws_szSampleS.f l0_1 t105).bind fun t106 => (if t106 < 0 then (some (-1)) else (some t106)))) = some r := H
  have A3 := Aside0.mk A30
  clear A30
  by_cases c4 : t105 < 0
  · rw [if_pos c4] at H
    have c4b0 : decide (t105 < 0) = true := decide_eq_true c4
    clear c4
    obtain rfl := Option.some.inj H
    go_enter Try.func65, Try.ntmps65
    go_wp2_with (first | ((with_reducible refine gate_dst (N := 2) rfl ?_); refine box_event ?hg (N := 2) ?hd (cs := #[.slice A0_0 l0_0.length c0_0, .slice A0_1 l0_1.length c0_1]) (t := 105) ?hr ?_; (case hd => rfl); (case hg => rfl); (case hr => first | (go_simp; done) | (go_simp; rfl)); intro gb104 hg w5 hbox hb; have n0_ := Aside0.mk (below_step (by repeat (first | (with_reducible first | exact HB.out | apply below_alloc | apply pw_below_drewN | apply below_drew1) | exact HB.out)) hb); have n1_ := Aside0.mk (hbox); have n2_ := Aside0.mk ((by rw [hg]; exact (below_size (by repeat (first | (with_reducible first | exact HB.out | apply below_alloc | apply pw_below_drewN | apply below_drew1) | exact HB.out))) : w.heap.size ≤ gb104)); have n3_ := Aside0.mk ((by rw [hg]; exact (below_size (by repeat (first | (with_reducible first | exact HB.out | apply below_alloc | apply pw_below_drewN | apply below_drew1) | exact HB.out))) : w.heap.size ≤ gb104)); clear HB; have HB := n0_; have BK104 := n1_; have GW104 := n2_; have GE104 := n3_; clear n0_ n1_ n2_ n3_; clear hb hbox hg; have hcz6_0 : w5.cell? ⟨gb104, 0, none⟩ = some (.slice A0_0 l0_0.length c0_0) := (blk_cell BK104.out 0).trans rfl; have hcz6_1 : w5.cell? ⟨gb104, 1, none⟩ = some (.slice A0_1 l0_1.length c0_1) := (blk_cell BK104.out 1).trans rfl; have hfz6_0 := blk_frozen BK104.out 0; have hfz6_1 := blk_frozen BK104.out 1) | ((with_reducible refine gate_callee (f := 76) rfl ?_); refine goesL_ (some 8) rfl rfl Try.func76 (by kernel_rfl) rfl #[.slice A0_0 l0_0.length c0_0, .int .i64 a1] rfl (by (try simp only [List.map_toArray, List.map_cons, List.map_nil]); first | done | rfl | (simp only [List.length_drop, List.length_take]; rfl)) ?_; (with_reducible refine (laws_szLabelS.calls k _ _ l0_0 a1 t105 _ ?side1 ?side2 A3.out).mono ?_); (case side1 => repeat (first | exact (Kd.C_below HR0_0.out HB.out) | (with_reducible refine Kd.C_alloc ?_ _) | (with_reducible refine Kd.C_drewN ?_ _) | (with_reducible refine Kd.C_drew ?_))); (case side2 => exact HC0_0.out); rintro e w7 ⟨rfl, hb⟩; refine ⟨_, rfl, ?_⟩; have n0_ := Aside0.mk (blk_below (g := gb104) (o := .cells #[.slice A0_0 l0_0.length c0_0, .slice A0_1 l0_1.length c0_1] 105 (0, 0)) (by (with_reducible repeat (first | refine blk_drewN ?_ _ | refine blk_drew ?_ | refine blk_alloc ?_ _)); exact BK104.out) hb); have n1_ := Aside0.mk (below_step (by repeat (first | (with_reducible first | exact HB.out | apply below_alloc | apply pw_below_drewN | apply below_drew1 | refine below_set ?_ GE104.out) | exact HB.out)) hb); clear BK104; clear HB; have BK104 := n0_; have HB := n1_; clear n0_ n1_; (try clear hb); (try clear hb2); (try clear hk); (try clear hi)))
    go_ret
    exact ⟨by first | rfl | (simp [errW_none, errW_some] <;> rfl) | (simp [*, errW_none, errW_some] <;> rfl), by repeat (first | (with_reducible first | exact HB.out | apply below_alloc | apply pw_below_drewN | apply below_drew1 | refine below_set ?_ GE104.out) | exact HB.out)⟩
  · rw [if_neg c4] at H
    have c4b0 : decide (t105 < 0) = false := decide_eq_false c4
    clear c4
    replace H := Option.bind_eq_some_iff.mp H
    obtain ⟨t106, A80, H⟩ := H
    replace H : (if t106 < 0 then (some (-1)) else (some t106)) = some r := H
    have A8 := Aside0.mk A80
    clear A80
    by_cases c9 : t106 < 0
    · rw [if_pos c9] at H
      have c9b0 : decide (t106 < 0) = true := decide_eq_true c9
      clear c9
      obtain rfl := Option.some.inj H
      go_enter Try.func65, Try.ntmps65
      go_wp2_with (first | ((with_reducible refine gate_dst (N := 2) rfl ?_); refine box_event ?hg (N := 2) ?hd (cs := #[.slice A0_0 l0_0.length c0_0, .slice A0_1 l0_1.length c0_1]) (t := 105) ?hr ?_; (case hd => rfl); (case hg => rfl); (case hr => first | (go_simp; done) | (go_simp; rfl)); intro gb104 hg w10 hbox hb; have n0_ := Aside0.mk (below_step (by repeat (first | (with_reducible first | exact HB.out | apply below_alloc | apply pw_below_drewN | apply below_drew1) | exact HB.out)) hb); have n1_ := Aside0.mk (hbox); have n2_ := Aside0.mk ((by rw [hg]; exact (below_size (by repeat (first | (with_reducible first | exact HB.out | apply below_alloc | apply pw_below_drewN | apply below_drew1) | exact HB.out))) : w.heap.size ≤ gb104)); have n3_ := Aside0.mk ((by rw [hg]; exact (below_size (by repeat (first | (with_reducible first | exact HB.out | apply below_alloc | apply pw_below_drewN | apply below_drew1) | exact HB.out))) : w.heap.size ≤ gb104)); clear HB; have HB := n0_; have BK104 := n1_; have GW104 := n2_; have GE104 := n3_; clear n0_ n1_ n2_ n3_; clear hb hbox hg; have hcz11_0 : w10.cell? ⟨gb104, 0, none⟩ = some (.slice A0_0 l0_0.length c0_0) := (blk_cell BK104.out 0).trans rfl; have hcz11_1 : w10.cell? ⟨gb104, 1, none⟩ = some (.slice A0_1 l0_1.length c0_1) := (blk_cell BK104.out 1).trans rfl; have hfz11_0 := blk_frozen BK104.out 0; have hfz11_1 := blk_frozen BK104.out 1) | ((with_reducible refine gate_callee (f := 76) rfl ?_); refine goesL_ (some 8) rfl rfl Try.func76 (by kernel_rfl) rfl #[.slice A0_0 l0_0.length c0_0, .int .i64 a1] rfl (by (try simp only [List.map_toArray, List.map_cons, List.map_nil]); first | done | rfl | (simp only [List.length_drop, List.length_take]; rfl)) ?_; (with_reducible refine (laws_szLabelS.calls k _ _ l0_0 a1 t105 _ ?side1 ?side2 A3.out).mono ?_); (case side1 => repeat (first | exact (Kd.C_below HR0_0.out HB.out) | (with_reducible refine Kd.C_alloc ?_ _) | (with_reducible refine Kd.C_drewN ?_ _) | (with_reducible refine Kd.C_drew ?_))); (case side2 => exact HC0_0.out); rintro e w12 ⟨rfl, hb⟩; refine ⟨_, rfl, ?_⟩; have n0_ := Aside0.mk (blk_below (g := gb104) (o := .cells #[.slice A0_0 l0_0.length c0_0, .slice A0_1 l0_1.length c0_1] 105 (0, 0)) (by (with_reducible repeat (first | refine blk_drewN ?_ _ | refine blk_drew ?_ | refine blk_alloc ?_ _)); exact BK104.out) hb); have n1_ := Aside0.mk (below_step (by repeat (first | (with_reducible first | exact HB.out | apply below_alloc | apply pw_below_drewN | apply below_drew1 | refine below_set ?_ GE104.out) | exact HB.out)) hb); clear BK104; clear HB; have BK104 := n0_; have HB := n1_; clear n0_ n1_; (try clear hb); (try clear hb2); (try clear hk); (try clear hi); have hcz13_0 : w12.cell? ⟨gb104, 0, none⟩ = some (.slice A0_0 l0_0.length c0_0) := (blk_cell BK104.out 0).trans rfl; have hcz13_1 : w12.cell? ⟨gb104, 1, none⟩ = some (.slice A0_1 l0_1.length c0_1) := (blk_cell BK104.out 1).trans rfl; have hfz13_0 := blk_frozen BK104.out 0; have hfz13_1 := blk_frozen BK104.out 1) | ((with_reducible refine gate_callee (f := 81) rfl ?_); refine goesL_ (some 14) rfl rfl Try.func81 (by kernel_rfl) rfl #[.slice A0_1 l0_1.length c0_1, .int .i64 t105] rfl (by (try simp only [List.map_toArray, List.map_cons, List.map_nil]); first | done | rfl | (simp only [List.length_drop, List.length_take]; rfl)) ?_; (with_reducible refine (laws_szSampleS.calls _ _ l0_1 t105 t106 _ ?side1 ?side2 A8.out).mono ?_); (case side1 => repeat (first | exact (Kd.C_below HR0_1.out HB.out) | (with_reducible refine Kd.C_alloc ?_ _) | (with_reducible refine Kd.C_drewN ?_ _) | (with_reducible refine Kd.C_drew ?_))); (case side2 => exact HC0_1.out); rintro e w' ⟨rfl, ⟨nd, rfl⟩⟩; refine ⟨_, rfl, ?_⟩))
      go_ret
      exact ⟨by first | rfl | (simp [errW_none, errW_some] <;> rfl) | (simp [*, errW_none, errW_some] <;> rfl), by repeat (first | (with_reducible first | exact HB.out | apply below_alloc | apply pw_below_drewN | apply below_drew1 | refine below_set ?_ GE104.out) | exact HB.out)⟩
    · rw [if_neg c9] at H
      have c9b0 : decide (t106 < 0) = false := decide_eq_false c9
      clear c9
      obtain rfl := Option.some.inj H
      go_enter Try.func65, Try.ntmps65
      go_wp2_with (first | ((with_reducible refine gate_dst (N := 2) rfl ?_); refine box_event ?hg (N := 2) ?hd (cs := #[.slice A0_0 l0_0.length c0_0, .slice A0_1 l0_1.length c0_1]) (t := 105) ?hr ?_; (case hd => rfl); (case hg => rfl); (case hr => first | (go_simp; done) | (go_simp; rfl)); intro gb104 hg w14 hbox hb; have n0_ := Aside0.mk (below_step (by repeat (first | (with_reducible first | exact HB.out | apply below_alloc | apply pw_below_drewN | apply below_drew1) | exact HB.out)) hb); have n1_ := Aside0.mk (hbox); have n2_ := Aside0.mk ((by rw [hg]; exact (below_size (by repeat (first | (with_reducible first | exact HB.out | apply below_alloc | apply pw_below_drewN | apply below_drew1) | exact HB.out))) : w.heap.size ≤ gb104)); have n3_ := Aside0.mk ((by rw [hg]; exact (below_size (by repeat (first | (with_reducible first | exact HB.out | apply below_alloc | apply pw_below_drewN | apply below_drew1) | exact HB.out))) : w.heap.size ≤ gb104)); clear HB; have HB := n0_; have BK104 := n1_; have GW104 := n2_; have GE104 := n3_; clear n0_ n1_ n2_ n3_; clear hb hbox hg; have hcz15_0 : w14.cell? ⟨gb104, 0, none⟩ = some (.slice A0_0 l0_0.length c0_0) := (blk_cell BK104.out 0).trans rfl; have hcz15_1 : w14.cell? ⟨gb104, 1, none⟩ = some (.slice A0_1 l0_1.length c0_1) := (blk_cell BK104.out 1).trans rfl; have hfz15_0 := blk_frozen BK104.out 0; have hfz15_1 := blk_frozen BK104.out 1) | ((with_reducible refine gate_callee (f := 76) rfl ?_); refine goesL_ (some 8) rfl rfl Try.func76 (by kernel_rfl) rfl #[.slice A0_0 l0_0.length c0_0, .int .i64 a1] rfl (by (try simp only [List.map_toArray, List.map_cons, List.map_nil]); first | done | rfl | (simp only [List.length_drop, List.length_take]; rfl)) ?_; (with_reducible refine (laws_szLabelS.calls k _ _ l0_0 a1 t105 _ ?side1 ?side2 A3.out).mono ?_); (case side1 => repeat (first | exact (Kd.C_below HR0_0.out HB.out) | (with_reducible refine Kd.C_alloc ?_ _) | (with_reducible refine Kd.C_drewN ?_ _) | (with_reducible refine Kd.C_drew ?_))); (case side2 => exact HC0_0.out); rintro e w16 ⟨rfl, hb⟩; refine ⟨_, rfl, ?_⟩; have n0_ := Aside0.mk (blk_below (g := gb104) (o := .cells #[.slice A0_0 l0_0.length c0_0, .slice A0_1 l0_1.length c0_1] 105 (0, 0)) (by (with_reducible repeat (first | refine blk_drewN ?_ _ | refine blk_drew ?_ | refine blk_alloc ?_ _)); exact BK104.out) hb); have n1_ := Aside0.mk (below_step (by repeat (first | (with_reducible first | exact HB.out | apply below_alloc | apply pw_below_drewN | apply below_drew1 | refine below_set ?_ GE104.out) | exact HB.out)) hb); clear BK104; clear HB; have BK104 := n0_; have HB := n1_; clear n0_ n1_; (try clear hb); (try clear hb2); (try clear hk); (try clear hi); have hcz17_0 : w16.cell? ⟨gb104, 0, none⟩ = some (.slice A0_0 l0_0.length c0_0) := (blk_cell BK104.out 0).trans rfl; have hcz17_1 : w16.cell? ⟨gb104, 1, none⟩ = some (.slice A0_1 l0_1.length c0_1) := (blk_cell BK104.out 1).trans rfl; have hfz17_0 := blk_frozen BK104.out 0; have hfz17_1 := blk_frozen BK104.out 1) | ((with_reducible refine gate_callee (f := 81) rfl ?_); refine goesL_ (some 14) rfl rfl Try.func81 (by kernel_rfl) rfl #[.slice A0_1 l0_1.length c0_1, .int .i64 t105] rfl (by (try simp only [List.map_toArray, List.map_cons, List.map_nil]); first | done | rfl | (simp only [List.length_drop, List.length_take]; rfl)) ?_; (with_reducible refine (laws_szSampleS.calls _ _ l0_1 t105 t106 _ ?side1 ?side2 A8.out).mono ?_); (case side1 => repeat (first | exact (Kd.C_below HR0_1.out HB.out) | (with_reducible refine Kd.C_alloc ?_ _) | (with_reducible refine Kd.C_drewN ?_ _) | (with_reducible refine Kd.C_drew ?_))); (case side2 => exact HC0_1.out); rintro e w' ⟨rfl, ⟨nd, rfl⟩⟩; refine ⟨_, rfl, ?_⟩))
      go_ret
      exact ⟨by first | rfl | (simp [errW_none, errW_some] <;> rfl) | (simp [*, errW_none, errW_some] <;> rfl), by repeat (first | (with_reducible first | exact HB.out | apply below_alloc | apply pw_below_drewN | apply below_drew1 | refine below_set ?_ GE104.out) | exact HB.out)⟩

/-! ### laws_szRowS: function 37 -/
def laws_szRowS.l0 : Nat → List (S105) → Int → Int → Option (Int)
  | 0, _, _, _ => none
  | k + 1, x0, x1, x5 => if x5 < (x0.length : Int) then (if 0 ≤ x5 then ((laws_szRow.f k ((rd_T105 x0 x5).f0) ((rd_T105 x0 x5).f1) x1).bind fun t108 => (if t108 < 0 then (some (-1)) else (laws_szRowS.l0 k x0 t108 (wrap64 (x5 + 1))))) else (none)) else (some x1)
def laws_szRowS.f (k : Nat) (l0 : List (S105)) (a1 : Int) : Option (Int) := if (wrap64 (a1 - (l0.length : Int))) < 0 then (some (-1)) else (laws_szRowS.l0 k l0 (wrap64 (a1 - (l0.length : Int))) 0)
theorem laws_szRowS.mono_l : ∀ k, (∀ y0 y1 y2, LeO (laws_szRowS.l0 k y0 y1 y2) (laws_szRowS.l0 (k + 1) y0 y1 y2))
  | 0 => fun _ _ _ r h => by simp [laws_szRowS.l0] at h
  | k + 1 => by
    have ih0 := laws_szRowS.mono_l k
    · intro y0 y1 y2
      unfold laws_szRowS.l0
      repeat' first
      | (with_reducible exact ih0 _ _ _)
      | (with_reducible exact laws_szRow.mono _ _ _ _)
      | (with_reducible exact LeO.refl _)
      | (with_reducible exact LeO.none _)
      | (with_reducible refine LeO.ite ?_ ?_)
      | (with_reducible refine LeO.bind ?_ (fun _ => ?_))
      | exact ih0 _ _ _
      | exact laws_szRow.mono _ _ _ _
      | exact LeO.none _
      | refine LeO.ite ?_ ?_
      | refine LeO.bind ?_ (fun _ => ?_)
theorem laws_szRowS.mono : ∀ a0 a1 k, LeO (laws_szRowS.f k a0 a1) (laws_szRowS.f (k + 1) a0 a1) := by
  intro a0 a1 k
  have ih0 := laws_szRowS.mono_l k
  unfold laws_szRowS.f
  repeat' first
      | (with_reducible exact ih0 _ _ _)
      | (with_reducible exact laws_szRow.mono _ _ _ _)
      | (with_reducible exact LeO.refl _)
      | (with_reducible exact LeO.none _)
      | (with_reducible refine LeO.ite ?_ ?_)
      | (with_reducible refine LeO.bind ?_ (fun _ => ?_))
      | exact ih0 _ _ _
      | exact laws_szRow.mono _ _ _ _
      | exact LeO.none _
      | refine LeO.ite ?_ ?_
      | refine LeO.bind ?_ (fun _ => ?_)
set_option maxHeartbeats 8000000 in
set_option maxRecDepth 100000 in
theorem laws_szRowS.calls (k : Nat) (A0 : Option Addr) (c0 : Nat) (l0 : List (S105)) (a1 : Int) (r : Int) (w : World) (hr0 : Kd.C k105 w A0 l0.length l0) (hc0 : l0.length ≤ c0) (h : laws_szRowS.f k l0 a1 = some r) :
    Calls Try.prog 37 #[.slice A0 l0.length c0, .int .i64 a1] w fun e w' => e = .returned (.int .i64 r) ∧ Below w.heap.size w w' := by
  have hu105 := Try.underlying105
  have HR0 := Aside0.mk hr0
  have HC0 := Aside0.mk hc0
  clear hr0 hc0
  have HB := Aside0.mk (Below.refl w.heap.size w)
  have H : (if (wrap64 (a1 - (l0.length : Int))) < 0 then (some (-1)) else (laws_szRowS.l0 k l0 (wrap64 (a1 - (l0.length : Int))) 0)) = some r := h
  clear h
  by_cases c3 : (wrap64 (a1 - (l0.length : Int))) < 0
  · rw [if_pos c3] at H
    have c3b0 : decide ((wrap64 (a1 - (l0.length : Int))) < 0) = true := decide_eq_true c3
    clear c3
    obtain rfl := Option.some.inj H
    go_enter Try.func37, Try.ntmps37
    go_wp2
    go_ret
    exact ⟨by first | rfl | (simp [errW_none, errW_some] <;> rfl) | (simp [*, errW_none, errW_some] <;> rfl), by repeat (first | (with_reducible first | exact HB.out | apply below_alloc | apply pw_below_drewN | apply below_drew1) | exact HB.out)⟩
  · rw [if_neg c3] at H
    have c3b0 : decide ((wrap64 (a1 - (l0.length : Int))) < 0) = false := decide_eq_false c3
    clear c3
    have H' := Aside0.mk H
    clear H
    go_enter Try.func37, Try.ntmps37
    go_wp2
    go_loopg [1, 5] k (fun kq v1 v5 w' => ∃ (x1_1 : Int) (x5_1 : Int), v1 = .int .i64 x1_1 ∧ v5 = .int .i64 x5_1 ∧ Aside0 (laws_szRowS.l0 kq l0 x1_1 x5_1 = some r) ∧ Aside0 (kq ≤ k) ∧ Aside0 (Below w.heap.size w w'))
    case atStart => exact ⟨(wrap64 (a1 - (l0.length : Int))), (0), (by first | rfl | (simp; done) | (simp [*]; done) | (simp only [my_ne_nil]; rfl)), (by first | rfl | (simp; done) | (simp [*]; done) | (simp only [my_ne_nil]; rfl)), H', ⟨Nat.le_refl _⟩, ⟨by repeat (first | (with_reducible first | exact HB.out | apply below_alloc | apply pw_below_drewN | apply below_drew1) | exact HB.out)⟩⟩
    case round =>
      clear H'
      try clear p2
      try clear c3
      try clear c3b0
      obtain ⟨x1_1, x5_1, rfl, rfl, HA, HK1, HB⟩ := hrel
      cases gk with
      | zero => exact absurd HA.out (by simp [laws_szRowS.l0])
      | succ k1 =>
        have H := HA.out
        clear HA
        simp only [laws_szRowS.l0] at H
        by_cases c4 : x5_1 < (l0.length : Int)
        · rw [if_pos c4] at H
          have c4b0 : decide (x5_1 < (l0.length : Int)) = true := decide_eq_true c4
          clear c4
          by_cases c5 : 0 ≤ x5_1
          · rw [if_pos c5] at H
            have c5b0 : decide (0 ≤ x5_1) = true := decide_eq_true c5
            clear c5
            replace H := Option.bind_eq_some_iff.mp H
            obtain ⟨t108, A60, H⟩ := H
            replace H : (if t108 < 0 then (some (-1)) else (laws_szRowS.l0 k1 l0 t108 (wrap64 (x5_1 + 1)))) = some r := H
            have A6 := Aside0.mk A60
            clear A60
            by_cases c7 : t108 < 0
            · rw [if_pos c7] at H
              have c7b0 : decide (t108 < 0) = true := decide_eq_true c7
              clear c7
              obtain rfl := Option.some.inj H
              have p107 : 0 ≤ (x5_1 : Int) := of_decide_eq_true (by first | (with_reducible assumption) | assumption)
              have q107 : x5_1 < (l0.length : Int) := of_decide_eq_true (by first | (with_reducible assumption) | assumption)
              obtain ⟨ad107, A107_0, c107_0, A107_1, c107_1, e107, hx107_0, hx107_1, hl107_0, hi107_0, hl107_1, hi107_1⟩ := at_T105 HR0.out x5_1 p107 q107
              cases e107
              replace hx107_0 := (HB.out.cell (World.block_lt_of_cell? w _ hx107_0)).trans hx107_0
              replace hx107_1 := (HB.out.cell (World.block_lt_of_cell? w _ hx107_1)).trans hx107_1
              have HR107_0 := Aside0.mk hi107_0
              have HC107_0 := Aside0.mk hl107_0
              clear hi107_0 hl107_0
              have HR107_1 := Aside0.mk hi107_1
              have HC107_1 := Aside0.mk hl107_1
              clear hi107_1 hl107_1
              replace p107 := eq_true p107
              replace q107 := eq_true q107
              go_wp2_with (first | ((with_reducible refine gate_callee (f := 65) rfl ?_); refine goesL_ (some 23) rfl rfl Try.func65 (by kernel_rfl) rfl #[.agg #[.slice A107_0 ((rd_T105 l0 x5_1).f0).length c107_0, .slice A107_1 ((rd_T105 l0 x5_1).f1).length c107_1], .int .i64 x1_1] rfl (by (try simp only [List.map_toArray, List.map_cons, List.map_nil]); first | done | rfl | (simp only [List.length_drop, List.length_take]; rfl)) ?_; (with_reducible refine (laws_szRow.calls k1 _ _ ((rd_T105 l0 x5_1).f0) _ _ ((rd_T105 l0 x5_1).f1) x1_1 t108 _ ?side1 ?side2 ?side3 ?side4 A6.out).mono ?_); (case side1 => repeat (first | exact (Kd.C_below HR107_0.out HB.out) | (with_reducible refine Kd.C_alloc ?_ _) | (with_reducible refine Kd.C_drewN ?_ _) | (with_reducible refine Kd.C_drew ?_))); (case side2 => exact HC107_0.out); (case side3 => repeat (first | exact (Kd.C_below HR107_1.out HB.out) | (with_reducible refine Kd.C_alloc ?_ _) | (with_reducible refine Kd.C_drewN ?_ _) | (with_reducible refine Kd.C_drew ?_))); (case side4 => exact HC107_1.out); rintro e w8 ⟨rfl, hb⟩; refine ⟨_, rfl, ?_⟩; have n0_ := Aside0.mk (below_step (by repeat (first | (with_reducible first | exact HB.out | apply below_alloc | apply pw_below_drewN | apply below_drew1) | exact HB.out)) hb); clear HB; have HB := n0_; clear n0_; (try clear hb); (try clear hb2); (try clear hk); (try clear hi)))
              go_ret
              exact ⟨by first | rfl | (simp [errW_none, errW_some] <;> rfl) | (simp [*, errW_none, errW_some] <;> rfl), by repeat (first | (with_reducible first | exact HB.out | apply below_alloc | apply pw_below_drewN | apply below_drew1) | exact HB.out)⟩
            · rw [if_neg c7] at H
              have c7b0 : decide (t108 < 0) = false := decide_eq_false c7
              clear c7
              have H' := Aside0.mk H
              clear H
              have p107 : 0 ≤ (x5_1 : Int) := of_decide_eq_true (by first | (with_reducible assumption) | assumption)
              have q107 : x5_1 < (l0.length : Int) := of_decide_eq_true (by first | (with_reducible assumption) | assumption)
              obtain ⟨ad107, A107_0, c107_0, A107_1, c107_1, e107, hx107_0, hx107_1, hl107_0, hi107_0, hl107_1, hi107_1⟩ := at_T105 HR0.out x5_1 p107 q107
              cases e107
              replace hx107_0 := (HB.out.cell (World.block_lt_of_cell? w _ hx107_0)).trans hx107_0
              replace hx107_1 := (HB.out.cell (World.block_lt_of_cell? w _ hx107_1)).trans hx107_1
              have HR107_0 := Aside0.mk hi107_0
              have HC107_0 := Aside0.mk hl107_0
              clear hi107_0 hl107_0
              have HR107_1 := Aside0.mk hi107_1
              have HC107_1 := Aside0.mk hl107_1
              clear hi107_1 hl107_1
              replace p107 := eq_true p107
              replace q107 := eq_true q107
              go_wp2_with (first | ((with_reducible refine gate_callee (f := 65) rfl ?_); refine goesL_ (some 23) rfl rfl Try.func65 (by kernel_rfl) rfl #[.agg #[.slice A107_0 ((rd_T105 l0 x5_1).f0).length c107_0, .slice A107_1 ((rd_T105 l0 x5_1).f1).length c107_1], .int .i64 x1_1] rfl (by (try simp only [List.map_toArray, List.map_cons, List.map_nil]); first | done | rfl | (simp only [List.length_drop, List.length_take]; rfl)) ?_; (with_reducible refine (laws_szRow.calls k1 _ _ ((rd_T105 l0 x5_1).f0) _ _ ((rd_T105 l0 x5_1).f1) x1_1 t108 _ ?side1 ?side2 ?side3 ?side4 A6.out).mono ?_); (case side1 => repeat (first | exact (Kd.C_below HR107_0.out HB.out) | (with_reducible refine Kd.C_alloc ?_ _) | (with_reducible refine Kd.C_drewN ?_ _) | (with_reducible refine Kd.C_drew ?_))); (case side2 => exact HC107_0.out); (case side3 => repeat (first | exact (Kd.C_below HR107_1.out HB.out) | (with_reducible refine Kd.C_alloc ?_ _) | (with_reducible refine Kd.C_drewN ?_ _) | (with_reducible refine Kd.C_drew ?_))); (case side4 => exact HC107_1.out); rintro e w9 ⟨rfl, hb⟩; refine ⟨_, rfl, ?_⟩; have n0_ := Aside0.mk (below_step (by repeat (first | (with_reducible first | exact HB.out | apply below_alloc | apply pw_below_drewN | apply below_drew1) | exact HB.out)) hb); clear HB; have HB := n0_; clear n0_; (try clear hb); (try clear hb2); (try clear hk); (try clear hi)))
              go_roundg k1
              case measure => have := HK1.out; omega
              case rel => exact ⟨(t108), (wrap64 (x5_1 + 1)), (by first | rfl | (simp; done) | (simp [*]; done) | (simp only [my_ne_nil]; rfl)), (by first | rfl | (simp; done) | (simp [*]; done) | (simp only [my_ne_nil]; rfl)), H', ⟨by have := HK1.out; omega⟩, ⟨by repeat (first | (with_reducible first | exact HB.out | apply below_alloc | apply pw_below_drewN | apply below_drew1) | exact HB.out)⟩⟩
          · rw [if_neg c5] at H
            exact absurd H (by simp)
        · rw [if_neg c4] at H
          have c4b0 : decide (x5_1 < (l0.length : Int)) = false := decide_eq_false c4
          clear c4
          obtain rfl := Option.some.inj H
          go_wp2
          go_ret
          exact ⟨by first | rfl | (simp [errW_none, errW_some] <;> rfl) | (simp [*, errW_none, errW_some] <;> rfl), by repeat (first | (with_reducible first | exact HB.out | apply below_alloc | apply pw_below_drewN | apply below_drew1) | exact HB.out)⟩

/-! ### laws_szBlock: function 16 -/
def laws_szBlock.f (k : Nat) (a0_0 : Int) (a0_1 : Int) (l0_2 : List (S105)) (a1 : Int) : Option (Int) := (laws_szRowS.f k l0_2 a1).bind fun t110 => (if t110 < 0 then (some (-1)) else (some t110))
theorem laws_szBlock.mono : ∀ a0 a1 a2 a3 k, LeO (laws_szBlock.f k a0 a1 a2 a3) (laws_szBlock.f (k + 1) a0 a1 a2 a3) := by
  intro a0 a1 a2 a3 k
  unfold laws_szBlock.f
  repeat' first
      | (with_reducible exact laws_szRowS.mono _ _ _)
      | (with_reducible exact LeO.refl _)
      | (with_reducible exact LeO.none _)
      | (with_reducible refine LeO.ite ?_ ?_)
      | (with_reducible refine LeO.bind ?_ (fun _ => ?_))
      | exact laws_szRowS.mono _ _ _
      | exact LeO.none _
      | refine LeO.ite ?_ ?_
      | refine LeO.bind ?_ (fun _ => ?_)
set_option maxHeartbeats 8000000 in
set_option maxRecDepth 100000 in
theorem laws_szBlock.calls (k : Nat) (a0_0 : Int) (a0_1 : Int) (A0_2 : Option Addr) (c0_2 : Nat) (l0_2 : List (S105)) (a1 : Int) (r : Int) (w : World) (hr0_2 : Kd.C k105 w A0_2 l0_2.length l0_2) (hc0_2 : l0_2.length ≤ c0_2) (h : laws_szBlock.f k a0_0 a0_1 l0_2 a1 = some r) :
    Calls Try.prog 16 #[.agg #[.int .i64 a0_0, .int .i64 a0_1, .slice A0_2 l0_2.length c0_2], .int .i64 a1] w fun e w' => e = .returned (.int .i64 r) ∧ Below w.heap.size w w' := by
  have hu47 := Try.underlying47
  have HR0_2 := Aside0.mk hr0_2
  have HC0_2 := Aside0.mk hc0_2
  clear hr0_2 hc0_2
  have HB := Aside0.mk (Below.refl w.heap.size w)
  have H : ((laws_szRowS.f k l0_2 a1).bind fun t110 => (if t110 < 0 then (some (-1)) else (some t110))) = some r := h
  clear h
  replace H := Option.bind_eq_some_iff.mp H
  obtain ⟨t110, A30, H⟩ := H
  replace H : (if t110 < 0 then (some (-1)) else (some t110)) = some r := H
  have A3 := Aside0.mk A30
  clear A30
  by_cases c4 : t110 < 0
  · rw [if_pos c4] at H
    have c4b0 : decide (t110 < 0) = true := decide_eq_true c4
    clear c4
    obtain rfl := Option.some.inj H
    go_enter Try.func16, Try.ntmps16
    go_wp2_with (first | ((with_reducible refine gate_dst (N := 2) rfl ?_); refine box_event ?hg (N := 2) ?hd (cs := #[.int .i64 a0_0, .int .i64 a0_1, .slice A0_2 l0_2.length c0_2]) (t := 47) ?hr ?_; (case hd => rfl); (case hg => rfl); (case hr => first | (go_simp; done) | (go_simp; rfl)); intro gb109 hg w5 hbox hb; have n0_ := Aside0.mk (below_step (by repeat (first | (with_reducible first | exact HB.out | apply below_alloc | apply pw_below_drewN | apply below_drew1) | exact HB.out)) hb); have n1_ := Aside0.mk (hbox); have n2_ := Aside0.mk ((by rw [hg]; exact (below_size (by repeat (first | (with_reducible first | exact HB.out | apply below_alloc | apply pw_below_drewN | apply below_drew1) | exact HB.out))) : w.heap.size ≤ gb109)); have n3_ := Aside0.mk ((by rw [hg]; exact (below_size (by repeat (first | (with_reducible first | exact HB.out | apply below_alloc | apply pw_below_drewN | apply below_drew1) | exact HB.out))) : w.heap.size ≤ gb109)); clear HB; have HB := n0_; have BK109 := n1_; have GW109 := n2_; have GE109 := n3_; clear n0_ n1_ n2_ n3_; clear hb hbox hg; have hcz6_0 : w5.cell? ⟨gb109, 0, none⟩ = some (.int .i64 a0_0) := (blk_cell BK109.out 0).trans rfl; have hcz6_1 : w5.cell? ⟨gb109, 1, none⟩ = some (.int .i64 a0_1) := (blk_cell BK109.out 1).trans rfl; have hcz6_2 : w5.cell? ⟨gb109, 2, none⟩ = some (.slice A0_2 l0_2.length c0_2) := (blk_cell BK109.out 2).trans rfl; have hfz6_0 := blk_frozen BK109.out 0; have hfz6_1 := blk_frozen BK109.out 1; have hfz6_2 := blk_frozen BK109.out 2) | ((with_reducible refine gate_callee (f := 37) rfl ?_); refine goesL_ (some 8) rfl rfl Try.func37 (by kernel_rfl) rfl #[.slice A0_2 l0_2.length c0_2, .int .i64 a1] rfl (by (try simp only [List.map_toArray, List.map_cons, List.map_nil]); first | done | rfl | (simp only [List.length_drop, List.length_take]; rfl)) ?_; (with_reducible refine (laws_szRowS.calls k _ _ l0_2 a1 t110 _ ?side1 ?side2 A3.out).mono ?_); (case side1 => repeat (first | exact (Kd.C_below HR0_2.out HB.out) | (with_reducible refine Kd.C_alloc ?_ _) | (with_reducible refine Kd.C_drewN ?_ _) | (with_reducible refine Kd.C_drew ?_))); (case side2 => exact HC0_2.out); rintro e w7 ⟨rfl, hb⟩; refine ⟨_, rfl, ?_⟩; have n0_ := Aside0.mk (blk_below (g := gb109) (o := .cells #[.int .i64 a0_0, .int .i64 a0_1, .slice A0_2 l0_2.length c0_2] 47 (0, 0)) (by (with_reducible repeat (first | refine blk_drewN ?_ _ | refine blk_drew ?_ | refine blk_alloc ?_ _)); exact BK109.out) hb); have n1_ := Aside0.mk (below_step (by repeat (first | (with_reducible first | exact HB.out | apply below_alloc | apply pw_below_drewN | apply below_drew1 | refine below_set ?_ GE109.out) | exact HB.out)) hb); clear BK109; clear HB; have BK109 := n0_; have HB := n1_; clear n0_ n1_; (try clear hb); (try clear hb2); (try clear hk); (try clear hi)))
    go_ret
    exact ⟨by first | rfl | (simp [errW_none, errW_some] <;> rfl) | (simp [*, errW_none, errW_some] <;> rfl), by repeat (first | (with_reducible first | exact HB.out | apply below_alloc | apply pw_below_drewN | apply below_drew1 | refine below_set ?_ GE109.out) | exact HB.out)⟩
  · rw [if_neg c4] at H
    have c4b0 : decide (t110 < 0) = false := decide_eq_false c4
    clear c4
    obtain rfl := Option.some.inj H
    go_enter Try.func16, Try.ntmps16
    go_wp2_with (first | ((with_reducible refine gate_dst (N := 2) rfl ?_); refine box_event ?hg (N := 2) ?hd (cs := #[.int .i64 a0_0, .int .i64 a0_1, .slice A0_2 l0_2.length c0_2]) (t := 47) ?hr ?_; (case hd => rfl); (case hg => rfl); (case hr => first | (go_simp; done) | (go_simp; rfl)); intro gb109 hg w8 hbox hb; have n0_ := Aside0.mk (below_step (by repeat (first | (with_reducible first | exact HB.out | apply below_alloc | apply pw_below_drewN | apply below_drew1) | exact HB.out)) hb); have n1_ := Aside0.mk (hbox); have n2_ := Aside0.mk ((by rw [hg]; exact (below_size (by repeat (first | (with_reducible first | exact HB.out | apply below_alloc | apply pw_below_drewN | apply below_drew1) | exact HB.out))) : w.heap.size ≤ gb109)); have n3_ := Aside0.mk ((by rw [hg]; exact (below_size (by repeat (first | (with_reducible first | exact HB.out | apply below_alloc | apply pw_below_drewN | apply below_drew1) | exact HB.out))) : w.heap.size ≤ gb109)); clear HB; have HB := n0_; have BK109 := n1_; have GW109 := n2_; have GE109 := n3_; clear n0_ n1_ n2_ n3_; clear hb hbox hg; have hcz9_0 : w8.cell? ⟨gb109, 0, none⟩ = some (.int .i64 a0_0) := (blk_cell BK109.out 0).trans rfl; have hcz9_1 : w8.cell? ⟨gb109, 1, none⟩ = some (.int .i64 a0_1) := (blk_cell BK109.out 1).trans rfl; have hcz9_2 : w8.cell? ⟨gb109, 2, none⟩ = some (.slice A0_2 l0_2.length c0_2) := (blk_cell BK109.out 2).trans rfl; have hfz9_0 := blk_frozen BK109.out 0; have hfz9_1 := blk_frozen BK109.out 1; have hfz9_2 := blk_frozen BK109.out 2) | ((with_reducible refine gate_callee (f := 37) rfl ?_); refine goesL_ (some 8) rfl rfl Try.func37 (by kernel_rfl) rfl #[.slice A0_2 l0_2.length c0_2, .int .i64 a1] rfl (by (try simp only [List.map_toArray, List.map_cons, List.map_nil]); first | done | rfl | (simp only [List.length_drop, List.length_take]; rfl)) ?_; (with_reducible refine (laws_szRowS.calls k _ _ l0_2 a1 t110 _ ?side1 ?side2 A3.out).mono ?_); (case side1 => repeat (first | exact (Kd.C_below HR0_2.out HB.out) | (with_reducible refine Kd.C_alloc ?_ _) | (with_reducible refine Kd.C_drewN ?_ _) | (with_reducible refine Kd.C_drew ?_))); (case side2 => exact HC0_2.out); rintro e w10 ⟨rfl, hb⟩; refine ⟨_, rfl, ?_⟩; have n0_ := Aside0.mk (blk_below (g := gb109) (o := .cells #[.int .i64 a0_0, .int .i64 a0_1, .slice A0_2 l0_2.length c0_2] 47 (0, 0)) (by (with_reducible repeat (first | refine blk_drewN ?_ _ | refine blk_drew ?_ | refine blk_alloc ?_ _)); exact BK109.out) hb); have n1_ := Aside0.mk (below_step (by repeat (first | (with_reducible first | exact HB.out | apply below_alloc | apply pw_below_drewN | apply below_drew1 | refine below_set ?_ GE109.out) | exact HB.out)) hb); clear BK109; clear HB; have BK109 := n0_; have HB := n1_; clear n0_ n1_; (try clear hb); (try clear hb2); (try clear hk); (try clear hi)))
    go_ret
    exact ⟨by first | rfl | (simp [errW_none, errW_some] <;> rfl) | (simp [*, errW_none, errW_some] <;> rfl), by repeat (first | (with_reducible first | exact HB.out | apply below_alloc | apply pw_below_drewN | apply below_drew1 | refine below_set ?_ GE109.out) | exact HB.out)⟩

/-! ### spec_l1In: function 26 -/
def spec_l1In.f (a0 : Int) (a1 : Int) (a2 : Int) : Option (Bool) := if a0 ≥ a1 then (some (decide (a0 ≤ a2))) else (some false)
set_option maxHeartbeats 8000000 in
set_option maxRecDepth 100000 in
theorem spec_l1In.calls (a0 : Int) (a1 : Int) (a2 : Int) (r : Bool) (w : World) (h : spec_l1In.f a0 a1 a2 = some r) :
    Calls Try.prog 26 #[.int .i64 a0, .int .i64 a1, .int .i64 a2] w fun e w' => e = .returned (.bool r) ∧ Drawn0 w w' := by
  have H : (if a0 ≥ a1 then (some (decide (a0 ≤ a2))) else (some false)) = some r := h
  clear h
  by_cases c4 : a0 ≥ a1
  · rw [if_pos c4] at H
    have c4b0 : decide (a1 ≤ a0) = true := decide_eq_true c4
    clear c4
    obtain rfl := Option.some.inj H
    go_enter Try.func26, Try.ntmps26
    go_wp2
    go_ret
    exact ⟨by first | rfl | (simp; done) | (simp [*]; done) | (simp only [my_ne_nil]; rfl), by repeat (first | exact Drawn0.refl _ | apply Drawn0.step)⟩
  · rw [if_neg c4] at H
    have c4b0 : decide (a1 ≤ a0) = false := decide_eq_false c4
    clear c4
    obtain rfl := Option.some.inj H
    go_enter Try.func26, Try.ntmps26
    go_wp2
    go_ret
    exact ⟨by first | rfl | (simp; done) | (simp [*]; done) | (simp only [my_ne_nil]; rfl), by repeat (first | exact Drawn0.refl _ | apply Drawn0.step)⟩

/-! ### spec_l3Letters: function 52 -/
def spec_l3Letters.f (a0 : ByteArray) (a1 : Int) : Option Bool := if a0.size < 9223372036854775807 then some (lettersB a0 a1) else none
set_option maxHeartbeats 1000000 in
set_option maxRecDepth 100000 in
theorem spec_l3Letters.calls (a0 : ByteArray) (a1 : Int) (r : Bool) (w : World) (h : spec_l3Letters.f a0 a1 = some r) :
    Calls Try.prog 52 #[.string a0, .int .i64 a1] w fun e w' => e = .returned (.bool r) ∧ Drawn0 w w' := by
  unfold spec_l3Letters.f at h
  split at h
  case isFalse => cases h
  case isTrue hs =>
  have hr := Aside0.mk (Option.some.inj h).symm
  clear h
  go_enter Try.func52, Try.ntmps52
  go_wp2
  go_loop [5] (fun v => ∃ k : Nat, k ≤ a0.size ∧ v = .int .i64 k ∧ Aside0 ((a0.data.toList.take k).all isL = true)) (fun v => a0.size - (intOf v).toNat)
  case atStart => exact ⟨0, Nat.zero_le _, rfl, ⟨rfl⟩⟩
  case round =>
    obtain ⟨k, hk, rfl, HA⟩ := hrel
    have e : (k : Int).toNat = k := by omega
    by_cases hlt : k < a0.size
    · have c0 : decide ((k : Int) < (a0.size : Int)) = true := decide_eq_true (by omega)
      have p : (0 ≤ (k : Int)) = True := eq_true (by omega)
      have q : ((k : Int) < (a0.size : Int)) = True := eq_true (by omega)
      have hx : ∀ h : k < a0.size, ((a0[k]'h).toNat : Int) = bt a0 (k : Int) := fun h => (letters_bt a0 k h).symm
      have hn := fun hb => letters_no a0 k hlt hb a1
      have hy := fun hb => letters_step a0 k hlt HA.out hb
      have Hn := Aside0.mk hn
      have Hy := Aside0.mk hy
      clear hn hy e
      by_cases c1 : bt a0 (k : Int) < 97
      · have c1b : decide (bt a0 (k : Int) < 97) = true := decide_eq_true c1
        have C1 := Aside0.mk c1
        clear c1
        go_wp2
        go_ret
        exact ⟨by rw [hr.out, Hn.out (by have := C1.out; omega)]; rfl, Drawn0.refl _⟩
      · have c1b : decide (bt a0 (k : Int) < 97) = false := decide_eq_false c1
        have C1 := Aside0.mk c1
        clear c1
        by_cases c2 : 122 < bt a0 (k : Int)
        · have c2b : decide (122 < bt a0 (k : Int)) = true := decide_eq_true c2
          have C2 := Aside0.mk c2
          clear c2
          go_wp2
          go_ret
          exact ⟨by rw [hr.out, Hn.out (by have := C2.out; omega)]; rfl, Drawn0.refl _⟩
        · have c2b : decide (122 < bt a0 (k : Int)) = false := decide_eq_false c2
          have C2 := Aside0.mk c2
          clear c2
          go_wp2
          go_round
          case rel => exact ⟨k + 1, by omega, by go_num, ⟨Hy.out (by have := C1.out; have := C2.out; omega)⟩⟩
          case measure => simp [intOf]; omega
    · have c0 : decide ((k : Int) < (a0.size : Int)) = false := decide_eq_false (by omega)
      have hk' : k = a0.size := by omega
      have HE := Aside0.mk (letters_end a0 (by rw [← hk']; exact HA.out) a1)
      clear hk' e
      go_wp2
      go_ret
      exact ⟨by rw [hr.out, HE.out]; rfl, Drawn0.refl _⟩

/-! ### spec_l3Name: function 51 -/
def spec_l3Name.f (a0 : ByteArray) : Option Bool := if a0.size < 9223372036854775807 then some (lettersB a0 6 && (a0.toList != [])) else none
set_option maxHeartbeats 1000000 in
set_option maxRecDepth 100000 in
theorem spec_l3Name.calls (a0 : ByteArray) (r : Bool) (w : World) (h : spec_l3Name.f a0 = some r) :
    Calls Try.prog 51 #[.string a0] w fun e w' => e = .returned (.bool r) ∧ Drawn0 w w' := by
  unfold spec_l3Name.f at h
  split at h
  case isFalse => cases h
  case isTrue hs =>
  have hr := Aside0.mk (Option.some.inj h).symm
  clear h
  have hc : ∀ w, Calls Try.prog 52 #[.string a0, .int .i64 6] w fun e w' => e = .returned (.bool (lettersB a0 6)) ∧ Drawn0 w w' := fun w => spec_l3Letters.calls a0 6 _ w (by unfold spec_l3Letters.f; rw [if_pos hs])
  have HC := Aside0.mk hc
  clear hc
  by_cases b : lettersB a0 6 = true
  · have HB := Aside0.mk b
    rw [b] at HC
    clear b
    go_enter Try.func51, Try.ntmps51
    go_wp2_with (go_at_call 52; refine (HC.out _).mono ?_; rintro e w' ⟨rfl, ⟨nd, rfl⟩⟩)
    go_ret
    exact ⟨by rw [hr.out, HB.out]; simp only [Bool.true_and, my_ne_nil]; rfl, ⟨⟨_, rfl⟩⟩⟩
  · have b' := Bool.eq_false_iff.mpr b
    have HB := Aside0.mk b'
    rw [b'] at HC
    clear b b'
    go_enter Try.func51, Try.ntmps51
    go_wp2_with (go_at_call 52; refine (HC.out _).mono ?_; rintro e w' ⟨rfl, ⟨nd, rfl⟩⟩)
    go_ret
    exact ⟨by rw [hr.out, HB.out]; rfl, ⟨⟨_, rfl⟩⟩⟩

/-! ### spec_LabelsOk: function 49 -/
def spec_LabelsOk.f (l0 : List Lbl) : Option Bool := if bdL l0 = true then some (labelsB l0) else none
set_option maxHeartbeats 4000000 in
set_option maxRecDepth 100000 in
theorem spec_LabelsOk.calls (A0 : Option Addr) (c0 : Nat) (l0 : List Lbl) (r : Bool) (w : World) (hr0 : Kd.C k119 w A0 l0.length l0) (hc0 : l0.length ≤ c0) (h : spec_LabelsOk.f l0 = some r) :
    Calls Try.prog 49 #[.slice A0 l0.length c0] w fun e w' => e = .returned (.bool r) ∧ Drawn0 w w' := by
  unfold spec_LabelsOk.f at h
  split at h
  case isFalse => cases h
  case isTrue hs =>
  have hr := Aside0.mk (Option.some.inj h).symm
  clear h
  have hu := Try.underlying119
  have HR0 := Aside0.mk hr0
  have HC0 := Aside0.mk hc0
  have HS := Aside0.mk hs
  have hN := bdL_len hs
  clear hr0 hc0 hs
  go_enter Try.func49, Try.ntmps49
  go_wp2
  go_loopw [3] (fun v wr => ∃ k : Nat, k ≤ l0.length ∧ v = .int .i64 k ∧ Aside0 (r = (chainP lblR lblLt (prevG l0 z119 k) (l0.drop k) && decide (1 ≤ l0.length ∧ l0.length ≤ 4))) ∧ Aside0 (Drawn0 w wr)) (fun v _ => l0.length - (intOf v).toNat)
  case atStart => exact ⟨0, Nat.zero_le _, rfl, ⟨hr.out⟩, ⟨Drawn0.refl _⟩⟩
  case round =>
    obtain ⟨k, hk, rfl, HA, HD⟩ := hrel
    by_cases hlt : k < l0.length
    · have c0b : decide ((k : Int) < (l0.length : Int)) = true := decide_eq_true (by omega)
      obtain ⟨ad, e, hx0, hx1⟩ := at_T119 HR0.out (k : Int) (by omega) (by omega)
      cases e
      have e1 : (k : Int).toNat = k := by omega
      have e2 : rd_T119 l0 (k : Int) = l0.getD k z119 := by unfold rd_T119; rw [e1]
      rw [e1, e2] at hx0 hx1
      replace hx0 := ((Drawn0.below HD.out).cell (World.block_lt_of_cell? w _ hx0)).trans hx0
      replace hx1 := ((Drawn0.below HD.out).cell (World.block_lt_of_cell? w _ hx1)).trans hx1
      have hmem : l0.getD k z119 ∈ l0 := by rw [getD_at hlt]; exact List.getElem_mem _
      have hb := bdL_at HS.out hmem
      have N1 := Aside0.mk (chainP_no1 lblR lblLt l0 z119 k hlt)
      have N2 := Aside0.mk (chainP_no2 lblR lblLt l0 z119 k hlt)
      have N3 := Aside0.mk (fun h0 : k = 0 => chainP_on0 lblR lblLt l0 z119 (by omega))
      have N4 := Aside0.mk (chainP_on lblR lblLt l0 z119 k hlt)
      clear e1 e2 hmem
      obtain ⟨x, hx⟩ : ∃ x, l0.getD k z119 = x := ⟨_, rfl⟩
      rw [hx] at hx0 hx1 hb N1 N2 N4
      have hR : lblR x = ((lettersB x.f0 6 && (x.f0.toList != [])) && lettersB x.f1 8 && (x.f1.toList != [])) := rfl
      have HX := Aside0.mk hx
      obtain ⟨nm, hnm⟩ : ∃ s, x.f0 = s := ⟨_, rfl⟩
      obtain ⟨wd, hwd⟩ : ∃ s, x.f1 = s := ⟨_, rfl⟩
      have HNM := Aside0.mk hnm
      rw [hnm, hwd] at hR hb
      rw [hnm] at hx0
      rw [hwd] at hx1
      have HRr := Aside0.mk hR
      clear hx hnm hwd hR
      have p : (0 ≤ (k : Int)) = True := eq_true (by omega)
      have q : ((k : Int) < (l0.length : Int)) = True := eq_true (by omega)
      have c1 : ∀ (b : Bool), (lettersB nm 6 && (nm.toList != [])) = b → ∀ w, Calls Try.prog 51 #[.string nm] w fun e w' => e = .returned (.bool b) ∧ Drawn0 w w' := fun b hb' w => spec_l3Name.calls nm b w (by unfold spec_l3Name.f; rw [if_pos hb.1, hb'])
      have c2 : ∀ (b : Bool), lettersB wd 8 = b → ∀ w, Calls Try.prog 52 #[.string wd, .int .i64 8] w fun e w' => e = .returned (.bool b) ∧ Drawn0 w w' := fun b hb' w => spec_l3Letters.calls wd 8 b w (by unfold spec_l3Letters.f; rw [if_pos hb.2, hb'])
      clear hb
      cases b1 : (lettersB nm 6 && (nm.toList != []))
      · have C1 := Aside0.mk (c1 false b1)
        have B1 := Aside0.mk b1
        clear c1 c2 b1
        go_wp2_with fail
        go_quiet ((go_at_call 51; exact quiet_D (C1.out _)))
        go_wp2
        go_ret
        exact ⟨by rw [HA.out, N1.out (by rw [HRr.out, B1.out]; rfl)]; rfl, by obtain ⟨m, hm⟩ := HD.out; exact ⟨⟨m + _, by rw [hm, World.drewN_drewN]⟩⟩⟩
      have C1 := Aside0.mk (c1 true b1)
      have B1 := Aside0.mk b1
      clear c1 b1
      cases b2 : lettersB wd 8
      · have C2 := Aside0.mk (c2 false b2)
        have B2 := Aside0.mk b2
        clear c2 b2
        go_wp2_with fail
        go_quiet ((first | (go_at_call 51; exact quiet_D (C1.out _)) | (go_at_call 52; exact quiet_D (C2.out _))))
        go_wp2
        go_ret
        exact ⟨by rw [HA.out, N1.out (by rw [HRr.out, B1.out, B2.out]; rfl)]; rfl, by obtain ⟨m, hm⟩ := HD.out; exact ⟨⟨m + _, by rw [hm, World.drewN_drewN]⟩⟩⟩
      have C2 := Aside0.mk (c2 true b2)
      have B2 := Aside0.mk b2
      clear c2 b2
      by_cases b3 : wd.toList = ([] : List UInt8)
      · have b3a : (wd.toList == ([] : List UInt8)) = true := beq_iff_eq.mpr b3
        have B3 := Aside0.mk b3
        clear b3
        go_wp2_with fail
        go_quiet ((first | (go_at_call 51; exact quiet_D (C1.out _)) | (go_at_call 52; exact quiet_D (C2.out _))))
        go_wp2
        go_ret
        exact ⟨by rw [HA.out, N1.out (by rw [HRr.out, B1.out, B2.out, B3.out]; rfl)]; rfl, by obtain ⟨m, hm⟩ := HD.out; exact ⟨⟨m + _, by rw [hm, World.drewN_drewN]⟩⟩⟩
      have b3a : (wd.toList == ([] : List UInt8)) = false := beq_eq_false_iff_ne.mpr b3
      have BR := Aside0.mk (show lblR x = true by rw [HRr.out, B1.out, B2.out]; simpa using b3)
      clear b3
      by_cases b4 : k = 0
      · have b4a : decide (0 < (k : Int)) = false := decide_eq_false (by omega)
        have b4n : decide (0 < k) = false := decide_eq_false (by omega)
        have B4 := Aside0.mk b4
        clear b4
        go_wp2_with fail
        go_quiet ((first | (go_at_call 51; exact quiet_D (C1.out _)) | (go_at_call 52; exact quiet_D (C2.out _))))
        go_wp2
        go_roundw
        case rel => exact ⟨k + 1, by omega, by go_num, ⟨by have e := N3.out B4.out (by rw [← B4.out, HX.out]; exact BR.out); rw [HA.out]; rw [B4.out]; rw [e]⟩, ⟨by obtain ⟨m, hm⟩ := HD.out; exact ⟨⟨m + _, by rw [hm, World.drewN_drewN]⟩⟩⟩⟩
        case measure => simp [intOf]; omega
      obtain ⟨j, hj⟩ : ∃ j : Nat, k = j + 1 := ⟨k - 1, by omega⟩
      have b4a : decide (0 < (k : Int)) = true := decide_eq_true (by omega)
      have b4n : decide (0 < k) = true := decide_eq_true (by omega)
      have jw : IntKind.i64.wrap ((k : Int) - 1) = (j : Int) := by rw [IntWalk.i64_in _ (by omega)]; omega
      have p2 : (0 ≤ (j : Int)) = True := eq_true (by omega)
      have q2 : ((j : Int) < (l0.length : Int)) = True := eq_true (by omega)
      obtain ⟨ad2, e, hy0, hy1⟩ := at_T119 HR0.out (j : Int) (by omega) (by omega)
      obtain rfl : ad = ad2 := by injection e
      have e1 : (j : Int).toNat = j := by omega
      have e2 : rd_T119 l0 (j : Int) = l0.getD (k - 1) z119 := by unfold rd_T119; rw [e1, hj]; rfl
      rw [e1, e2] at hy0
      replace hy0 := ((Drawn0.below HD.out).cell (World.block_lt_of_cell? w _ hy0)).trans hy0
      clear e e1 e2 hy1 b4
      obtain ⟨y, hy⟩ : ∃ y, l0.getD (k - 1) z119 = y := ⟨_, rfl⟩
      rw [hy] at hy0 N2 N4
      have HY := Aside0.mk hy
      obtain ⟨pn, hpn⟩ : ∃ s, y.f0 = s := ⟨_, rfl⟩
      have HPN := Aside0.mk hpn
      rw [hpn] at hy0
      have HJ := Aside0.mk hj
      clear hy hpn hj
      have hl : lblLt y x = Op.bytesLess pn.toList nm.toList := by unfold lblLt; rw [HPN.out, HNM.out]
      have HL := Aside0.mk hl
      clear hl
      cases b5 : Op.bytesLess pn.toList nm.toList
      · have B5 := Aside0.mk b5
        go_wp2_with fail
        go_quiet ((first | (go_at_call 51; exact quiet_D (C1.out _)) | (go_at_call 52; exact quiet_D (C2.out _))))
        go_wp2
        go_ret
        exact ⟨by rw [HA.out, N2.out (by have := HJ.out; omega) (HL.out.trans B5.out)]; rfl, by obtain ⟨m, hm⟩ := HD.out; exact ⟨⟨m + _, by rw [hm, World.drewN_drewN]⟩⟩⟩
      · have B5 := Aside0.mk b5
        go_wp2_with fail
        go_quiet ((first | (go_at_call 51; exact quiet_D (C1.out _)) | (go_at_call 52; exact quiet_D (C2.out _))))
        go_wp2
        go_roundw
        case rel => exact ⟨k + 1, by omega, by go_num, ⟨by rw [HA.out, N4.out (by have := HJ.out; omega) BR.out (HL.out.trans B5.out)]⟩, ⟨by obtain ⟨m, hm⟩ := HD.out; exact ⟨⟨m + _, by rw [hm, World.drewN_drewN]⟩⟩⟩⟩
        case measure => simp [intOf]; omega
    · have c0b : decide ((k : Int) < (l0.length : Int)) = false := decide_eq_false (by omega)
      have HE := Aside0.mk (chainP_end lblR lblLt l0 (prevG l0 z119 k) k (by omega))
      have HI : ∀ w, Calls Try.prog 26 #[.int .i64 (l0.length : Int), .int .i64 1, .int .i64 4] w fun e w' => e = .returned (.bool (decide (1 ≤ l0.length) && decide (l0.length ≤ 4))) ∧ Drawn0 w w' := fun w => spec_l1In.calls _ _ _ _ w (by
        unfold spec_l1In.f
        by_cases c : (l0.length : Int) ≥ 1
        · rw [if_pos c, decide_eq_true (show 1 ≤ l0.length by omega), Bool.true_and]; congr 1; exact decide_eq_decide.mpr (by omega)
        · rw [if_neg c, decide_eq_false (show ¬ 1 ≤ l0.length by omega), Bool.false_and])
      have HI' := Aside0.mk HI
      clear HI
      go_wp2_with (go_at_call 26; refine (HI'.out _).mono ?_; rintro e w' ⟨rfl, ⟨nd, rfl⟩⟩)
      go_ret
      exact ⟨by rw [HA.out, HE.out, Bool.true_and, Bool.decide_and]; rfl, by obtain ⟨m, hm⟩ := HD.out; exact ⟨⟨m + _, by rw [hm, World.drewN_drewN]⟩⟩⟩

/-! ### spec_l2Ok: function 50 -/
def spec_l2Ok.f (l0 : List Smp) : Option Bool := if l0.length < 9223372036854775807 then some (sok l0) else none
theorem l1In_dec (a b c : Int) : spec_l1In.f a b c = some (decide (b ≤ a ∧ a ≤ c)) := by
  unfold spec_l1In.f
  by_cases h : a ≥ b
  · rw [if_pos h]
    exact congrArg some (decide_eq_decide.mpr ⟨fun g => ⟨h, g⟩, fun g => g.2⟩)
  · rw [if_neg h]
    exact congrArg some (decide_eq_false (fun g => h g.1)).symm
set_option maxHeartbeats 4000000 in
set_option maxRecDepth 100000 in
theorem spec_l2Ok.calls (A0 : Option Addr) (c0 : Nat) (l0 : List Smp) (r : Bool) (w : World) (hr0 : Kd.C k87 w A0 l0.length l0) (hc0 : l0.length ≤ c0) (h : spec_l2Ok.f l0 = some r) :
    Calls Try.prog 50 #[.slice A0 l0.length c0] w fun e w' => e = .returned (.bool r) ∧ Drawn0 w w' := by
  unfold spec_l2Ok.f at h
  split at h
  case isFalse => cases h
  case isTrue hN =>
  have hr := Aside0.mk (Option.some.inj h).symm
  clear h
  have hu := Try.underlying87
  have HR0 := Aside0.mk hr0
  clear hr0 hc0
  go_enter Try.func50, Try.ntmps50
  go_wp2
  go_loopw [3] (fun v wr => ∃ k : Nat, k ≤ l0.length ∧ v = .int .i64 k ∧ Aside0 (r = chainP inR smpLt (prevG l0 z87 k) (l0.drop k)) ∧ Aside0 (Drawn0 w wr)) (fun v _ => l0.length - (intOf v).toNat)
  case atStart => exact ⟨0, Nat.zero_le _, rfl, ⟨hr.out⟩, ⟨Drawn0.refl _⟩⟩
  case round =>
    obtain ⟨k, hk, rfl, HA, HD⟩ := hrel
    by_cases hlt : k < l0.length
    · have c0b : decide ((k : Int) < (l0.length : Int)) = true := decide_eq_true (by omega)
      obtain ⟨ad, e, hx0, hx1⟩ := at_T87 HR0.out (k : Int) (by omega) (by omega)
      cases e
      have e1 : (k : Int).toNat = k := by omega
      have e2 : rd_T87 l0 (k : Int) = l0.getD k z87 := by unfold rd_T87; rw [e1]
      rw [e1, e2] at hx0 hx1
      replace hx0 := ((Drawn0.below HD.out).cell (World.block_lt_of_cell? w _ hx0)).trans hx0
      replace hx1 := ((Drawn0.below HD.out).cell (World.block_lt_of_cell? w _ hx1)).trans hx1
      have N1 := Aside0.mk (chainP_no1 inR smpLt l0 z87 k hlt)
      have N2 := Aside0.mk (chainP_no2 inR smpLt l0 z87 k hlt)
      have N3 := Aside0.mk (fun h0 : k = 0 => chainP_on0 inR smpLt l0 z87 (by omega))
      have N4 := Aside0.mk (chainP_on inR smpLt l0 z87 k hlt)
      clear e1 e2
      obtain ⟨x, hx⟩ : ∃ x, l0.getD k z87 = x := ⟨_, rfl⟩
      rw [hx] at hx0 hx1 N1 N2 N4
      have HX := Aside0.mk hx
      obtain ⟨T, hT⟩ : ∃ s, x.f0 = s := ⟨_, rfl⟩
      obtain ⟨V, hV⟩ : ∃ s, x.f1 = s := ⟨_, rfl⟩
      have hR : inR x = (decide (0 ≤ T ∧ T ≤ 9999) && decide (0 ≤ V ∧ V ≤ 2147483647)) := by
        unfold inR
        rw [hT, hV, ← Bool.coe_iff_coe]
        simp [and_assoc]
      rw [hT] at hx0
      rw [hV] at hx1
      have HRr := Aside0.mk hR
      have HT := Aside0.mk hT
      clear hx hT hV hR
      have p : (0 ≤ (k : Int)) = True := eq_true (by omega)
      have q : ((k : Int) < (l0.length : Int)) = True := eq_true (by omega)
      have c1 : ∀ (b : Bool), decide (0 ≤ T ∧ T ≤ 9999) = b → ∀ w, Calls Try.prog 26 #[.int .i64 T, .int .i64 0, .int .i64 9999] w fun e w' => e = .returned (.bool b) ∧ Drawn0 w w' := fun b hb' w => spec_l1In.calls T 0 9999 b w (by rw [l1In_dec, hb'])
      have c2 : ∀ (b : Bool), decide (0 ≤ V ∧ V ≤ 2147483647) = b → ∀ w, Calls Try.prog 26 #[.int .i64 V, .int .i64 0, .int .i64 2147483647] w fun e w' => e = .returned (.bool b) ∧ Drawn0 w w' := fun b hb' w => spec_l1In.calls V 0 2147483647 b w (by rw [l1In_dec, hb'])
      cases b1 : decide (0 ≤ T ∧ T ≤ 9999)
      · have C1 := Aside0.mk (c1 false b1)
        have B1 := Aside0.mk b1
        clear c1 c2 b1
        go_wp2_with fail
        go_quiet ((go_at_call 26; exact quiet_D (C1.out _)))
        go_wp2
        go_ret
        exact ⟨by rw [HA.out, N1.out (by rw [HRr.out, B1.out]; rfl)]; rfl, by obtain ⟨m, hm⟩ := HD.out; exact ⟨⟨m + _, by rw [hm, World.drewN_drewN]⟩⟩⟩
      have C1 := Aside0.mk (c1 true b1)
      have B1 := Aside0.mk b1
      clear c1 b1
      cases b2 : decide (0 ≤ V ∧ V ≤ 2147483647)
      · have C2 := Aside0.mk (c2 false b2)
        have B2 := Aside0.mk b2
        clear c2 b2
        go_wp2_with fail
        go_quiet ((go_at_call 26; first | with_reducible exact quiet_D (C1.out _) | with_reducible exact quiet_D (C2.out _)))
        go_wp2
        go_ret
        exact ⟨by rw [HA.out, N1.out (by rw [HRr.out, B1.out, B2.out]; rfl)]; rfl, by obtain ⟨m, hm⟩ := HD.out; exact ⟨⟨m + _, by rw [hm, World.drewN_drewN]⟩⟩⟩
      have C2 := Aside0.mk (c2 true b2)
      have B2 := Aside0.mk b2
      clear c2 b2
      have BR := Aside0.mk (show inR x = true by rw [HRr.out, B1.out, B2.out]; rfl)
      by_cases b4 : k = 0
      · have b4a : decide (0 < (k : Int)) = false := decide_eq_false (by omega)
        have b4n : decide (0 < k) = false := decide_eq_false (by omega)
        have B4 := Aside0.mk b4
        clear b4
        go_wp2_with fail
        go_quiet ((go_at_call 26; first | with_reducible exact quiet_D (C1.out _) | with_reducible exact quiet_D (C2.out _)))
        go_wp2
        go_roundw
        case rel => exact ⟨k + 1, by omega, by go_num, ⟨by have e := N3.out B4.out (by rw [← B4.out, HX.out]; exact BR.out); rw [HA.out]; rw [B4.out]; rw [e]⟩, ⟨by obtain ⟨m, hm⟩ := HD.out; exact ⟨⟨m + _, by rw [hm, World.drewN_drewN]⟩⟩⟩⟩
        case measure => simp [intOf]; omega
      obtain ⟨j, hj⟩ : ∃ j : Nat, k = j + 1 := ⟨k - 1, by omega⟩
      have b4a : decide (0 < (k : Int)) = true := decide_eq_true (by omega)
      have b4n : decide (0 < k) = true := decide_eq_true (by omega)
      have jw : IntKind.i64.wrap ((k : Int) - 1) = (j : Int) := by rw [IntWalk.i64_in _ (by omega)]; omega
      have p2 : (0 ≤ (j : Int)) = True := eq_true (by omega)
      have q2 : ((j : Int) < (l0.length : Int)) = True := eq_true (by omega)
      obtain ⟨ad2, e, hy0, hy1⟩ := at_T87 HR0.out (j : Int) (by omega) (by omega)
      obtain rfl : ad = ad2 := by injection e
      have e1 : (j : Int).toNat = j := by omega
      have e2 : rd_T87 l0 (j : Int) = l0.getD (k - 1) z87 := by unfold rd_T87; rw [e1, hj]; rfl
      rw [e1, e2] at hy0
      replace hy0 := ((Drawn0.below HD.out).cell (World.block_lt_of_cell? w _ hy0)).trans hy0
      clear e e1 e2 hy1 b4
      obtain ⟨y, hy⟩ : ∃ y, l0.getD (k - 1) z87 = y := ⟨_, rfl⟩
      rw [hy] at hy0 N2 N4
      obtain ⟨pn, hpn⟩ : ∃ s, y.f0 = s := ⟨_, rfl⟩
      rw [hpn] at hy0
      have HJ := Aside0.mk hj
      have HL := Aside0.mk (show smpLt y x = decide (pn < T) by unfold smpLt; rw [hpn, HT.out])
      clear hy hpn hj
      by_cases b5 : pn < T
      · have b5a : decide (T ≤ pn) = false := decide_eq_false (by omega)
        have B5 := Aside0.mk (decide_eq_true b5)
        clear b5
        go_wp2_with fail
        go_quiet ((go_at_call 26; first | with_reducible exact quiet_D (C1.out _) | with_reducible exact quiet_D (C2.out _)))
        go_wp2
        go_roundw
        case rel => exact ⟨k + 1, by omega, by go_num, ⟨by rw [HA.out, N4.out (by have := HJ.out; omega) BR.out (HL.out.trans B5.out)]⟩, ⟨by obtain ⟨m, hm⟩ := HD.out; exact ⟨⟨m + _, by rw [hm, World.drewN_drewN]⟩⟩⟩⟩
        case measure => simp [intOf]; omega
      · have b5a : decide (T ≤ pn) = true := decide_eq_true (by omega)
        have B5 := Aside0.mk (decide_eq_false b5)
        clear b5
        go_wp2_with fail
        go_quiet ((go_at_call 26; first | with_reducible exact quiet_D (C1.out _) | with_reducible exact quiet_D (C2.out _)))
        go_wp2
        go_ret
        exact ⟨by rw [HA.out, N2.out (by have := HJ.out; omega) (HL.out.trans B5.out)]; rfl, by obtain ⟨m, hm⟩ := HD.out; exact ⟨⟨m + _, by rw [hm, World.drewN_drewN]⟩⟩⟩
    · have c0b : decide ((k : Int) < (l0.length : Int)) = false := decide_eq_false (by omega)
      have HE := Aside0.mk (chainP_end inR smpLt l0 (prevG l0 z87 k) k (by omega))
      go_wp2
      go_ret
      exact ⟨by rw [HA.out, HE.out]; rfl, HD.out⟩

/-! ### spec_l3Texts: function 82 -/
def spec_l3Texts.f (a0 a1 : ByteArray) : Option Int := some (cmpT a0 a1)
set_option maxHeartbeats 1000000 in
set_option maxRecDepth 100000 in
theorem spec_l3Texts.calls (a0 a1 : ByteArray) (r : Int) (w : World) (h : spec_l3Texts.f a0 a1 = some r) : Calls Try.prog 82 #[.string a0, .string a1] w fun e w' => e = .returned (.int .i64 r) ∧ Drawn0 w w' := by
  have HV := Aside0.mk (Option.some.inj h)
  clear h
  cases h1 : Op.bytesLess a0.toList a1.toList
  · cases h2 : (a0.toList == a1.toList)
    · have E := Aside0.mk (show cmpT a0 a1 = 1 by unfold cmpT; rw [h1, h2]; rfl)
      go_enter Try.func82, Try.ntmps82
      go_wp2
      go_ret
      exact ⟨by rw [← HV.out, E.out]; rfl, Drawn0.refl _⟩
    · have E := Aside0.mk (show cmpT a0 a1 = 0 by unfold cmpT; rw [h1, h2]; rfl)
      go_enter Try.func82, Try.ntmps82
      go_wp2
      go_ret
      exact ⟨by rw [← HV.out, E.out]; rfl, Drawn0.refl _⟩
  · have E := Aside0.mk (show cmpT a0 a1 = -1 by unfold cmpT; rw [h1]; rfl)
    go_enter Try.func82, Try.ntmps82
    go_wp2
    go_ret
    exact ⟨by rw [← HV.out, E.out]; rfl, Drawn0.refl _⟩

end Go.Proofs.Ytfipeogppcllnaa.QFnExactBlockOk
