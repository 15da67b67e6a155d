-- Written by wip/tools/mk.py (this session's program, which runs the kit's print): functions, and proofs that the machine's calls do what they say.
import Derived.Test.YtipbllegjcedgaaQFnMatchesSomex0
import Derived.Test.YtipbllegjcedgaaQFnMatchesSomex1
import Derived.Test.YtipbllegjcedgaaQFnMatchesSomex2
namespace Go.Proofs.Ytipbllegjcedgaa.QFnMatchesSome
open Go.RowKit Go.Proofs.YtipbllegjcedgaaW.PrintWords Go.Proofs.YtipbllegjcedgaaW.PrintLast Go.Proofs.YtipbllegjcedgaaW.PrintMore
attribute [local go_sem] IntKind.wrap_u8 max2_int min2_int max_two min_two max_three min_three max_four min_four   -- for this text's walks alone
set_option linter.unusedVariables false
set_option linter.unusedSimpArgs false

/-! ### spec_l13AnyMatches: function 54 -/
def spec_l13AnyMatches.l0 : Nat → List (S48) → List Int → Int → Option ((List (S48)) × Int)
  | 0, _, _, _ => none
  | k + 1, x3, x1000, x1001 => (spec_l1Rd_pick.f k x1000 x1001 2).bind fun bt214 => (if (x3.length : Int) < (wrap64 (4 + bt214.1)) then (if x3.length < 3518437208883 then (spec_l13AnyMatches.l0 k (x3 ++ [(⟨2, (⟨#[97, 112, 112]⟩ : ByteArray), (⟨#[113]⟩ : ByteArray)⟩ : S48)]) x1000 bt214.2) else (none)) else (some (x3, bt214.2)))
def spec_l13AnyMatches.f (k : Nat) (s0_0 : List Int) (s0_1 : Int) : Option ((List (S48)) × Int) := (spec_l13Matches.f k s0_0 s0_1).bind fun bt192 => ((spec_l1Rd_pick.f k s0_0 bt192.2 20).bind fun bt196 => (if bt196.1 = 0 then ((spec_l1Rd_one.f k s0_0 bt196.2 (([0, 5] : List Int))).bind fun bt201 => (if bt192.1.length < 3518437208883 then (some ((bt192.1 ++ [(⟨bt201.1, (⟨#[97, 112, 112]⟩ : ByteArray), (⟨#[]⟩ : ByteArray)⟩ : S48)]), bt201.2)) else (none))) else (if bt196.1 = 1 then ((spec_l1Rd_of.f k s0_0 bt196.2 (([(⟨#[]⟩ : ByteArray), (⟨#[65]⟩ : ByteArray)] : List ByteArray))).bind fun bt209 => (if bt192.1.length < 3518437208883 then (some ((bt192.1 ++ [(⟨1, bt209.1, (⟨#[]⟩ : ByteArray)⟩ : S48)]), bt209.2)) else (none))) else (if bt196.1 = 2 then (spec_l13AnyMatches.l0 k bt192.1 s0_0 bt196.2) else (some (bt192.1, bt196.2))))))
theorem spec_l13AnyMatches.mono_l : ∀ k, (∀ y0 y1 y2, LeO (spec_l13AnyMatches.l0 k y0 y1 y2) (spec_l13AnyMatches.l0 (k + 1) y0 y1 y2))
  | 0 => fun _ _ _ r h => by simp [spec_l13AnyMatches.l0] at h
  | k + 1 => by
    have ih0 := spec_l13AnyMatches.mono_l k
    · intro y0 y1 y2
      unfold spec_l13AnyMatches.l0
      repeat' first
      | (with_reducible exact ih0 _ _ _)
      | (with_reducible exact spec_l13Matches.mono _ _ _)
      | (with_reducible exact spec_l1Rd_of.mono _ _ _ _)
      | (with_reducible exact spec_l1Rd_one.mono _ _ _ _)
      | (with_reducible exact spec_l1Rd_pick.mono _ _ _ _)
      | (with_reducible exact LeO.refl _)
      | (with_reducible exact LeO.none _)
      | (with_reducible refine LeO.ite ?_ ?_)
      | (with_reducible refine LeO.bind ?_ (fun _ => ?_))
      | exact ih0 _ _ _
      | exact spec_l13Matches.mono _ _ _
      | exact spec_l1Rd_of.mono _ _ _ _
      | exact spec_l1Rd_one.mono _ _ _ _
      | exact spec_l1Rd_pick.mono _ _ _ _
      | exact LeO.none _
      | refine LeO.ite ?_ ?_
      | refine LeO.bind ?_ (fun _ => ?_)
theorem spec_l13AnyMatches.mono : ∀ a0 a1 k, LeO (spec_l13AnyMatches.f k a0 a1) (spec_l13AnyMatches.f (k + 1) a0 a1) := by
  intro a0 a1 k
  have ih0 := spec_l13AnyMatches.mono_l k
  unfold spec_l13AnyMatches.f
  repeat' first
      | (with_reducible exact ih0 _ _ _)
      | (with_reducible exact spec_l13Matches.mono _ _ _)
      | (with_reducible exact spec_l1Rd_of.mono _ _ _ _)
      | (with_reducible exact spec_l1Rd_one.mono _ _ _ _)
      | (with_reducible exact spec_l1Rd_pick.mono _ _ _ _)
      | (with_reducible exact LeO.refl _)
      | (with_reducible exact LeO.none _)
      | (with_reducible refine LeO.ite ?_ ?_)
      | (with_reducible refine LeO.bind ?_ (fun _ => ?_))
      | exact ih0 _ _ _
      | exact spec_l13Matches.mono _ _ _
      | exact spec_l1Rd_of.mono _ _ _ _
      | exact spec_l1Rd_one.mono _ _ _ _
      | exact spec_l1Rd_pick.mono _ _ _ _
      | exact LeO.none _
      | refine LeO.ite ?_ ?_
      | refine LeO.bind ?_ (fun _ => ?_)
set_option maxHeartbeats 8000000 in
set_option maxRecDepth 100000 in
theorem spec_l13AnyMatches.calls (k : Nat) (g : Nat) (s0_0 : List Int) (s0_1 : Int) (r1 : List (S48)) (r2 : Int) (w0 w : World) (hI : IsS102 w0 w g s0_0 s0_1) (hB : Below w0.heap.size w0 w) (h : spec_l13AnyMatches.f k s0_0 s0_1 = some (r1, r2)) :
    Calls Try.prog 54 #[.pointer (some ⟨g, 0, none⟩)] w fun e w' => ∃ v0_ : Value, e = .returned (v0_) ∧ Kd.R k48 48 w' w.heap.size (fun _ => True) v0_ r1 ∧ IsS102 w0 w' g s0_0 r2 ∧ Below w0.heap.size w0 w' ∧ KeepBut w w' g none := by
  have hu48 := Try.underlying48
  have HI0 := Aside0.mk hI
  have HK := Aside0.mk (KeepBut.refl w g none)
  have HL := Aside0.mk hB.size
  clear hI
  have HW0 := Aside0.mk hB.size
  have HB := Aside0.mk hB
  clear hB
  have H : ((spec_l13Matches.f k s0_0 s0_1).bind fun bt192 => ((spec_l1Rd_pick.f k s0_0 bt192.2 20).bind fun bt196 => (if bt196.1 = 0 then ((spec_l1Rd_one.f k s0_0 bt196.2 (([0, 5] : List Int))).bind fun bt201 => (if bt192.1.length < 3518437208883 then (some ((bt192.1 ++ [(⟨bt201.1, (⟨#[97, 112, 112]⟩ : ByteArray), (⟨#[]⟩ : ByteArray)⟩ : S48)]), bt201.2)) else (none))) else (if bt196.1 = 1 then ((spec_l1Rd_of.f k s0_0 bt196.2 (([(⟨#[]⟩ : ByteArray), (⟨#[65]⟩ : ByteArray)] : List ByteArray))).bind fun bt209 => (if bt192.1.length < 3518437208883 then (some ((bt192.1 ++ [(⟨1, bt209.1, (⟨#[]⟩ : ByteArray)⟩ : S48)]), bt209.2)) else (none))) else (if bt196.1 = 2 then (spec_l13AnyMatches.l0 k bt192.1 s0_0 bt196.2) else (some (bt192.1, bt196.2))))))) = some (r1, r2) := h
  clear h
  replace H := Option.bind_eq_some_iff.mp H
  obtain ⟨⟨t192, t195⟩, A20, H⟩ := H
  replace H : ((spec_l1Rd_pick.f k s0_0 t195 20).bind fun bt196 => (if bt196.1 = 0 then ((spec_l1Rd_one.f k s0_0 bt196.2 (([0, 5] : List Int))).bind fun bt201 => (if t192.length < 3518437208883 then (some ((t192 ++ [(⟨bt201.1, (⟨#[97, 112, 112]⟩ : ByteArray), (⟨#[]⟩ : ByteArray)⟩ : S48)]), bt201.2)) else (none))) else (if bt196.1 = 1 then ((spec_l1Rd_of.f k s0_0 bt196.2 (([(⟨#[]⟩ : ByteArray), (⟨#[65]⟩ : ByteArray)] : List ByteArray))).bind fun bt209 => (if t192.length < 3518437208883 then (some ((t192 ++ [(⟨1, bt209.1, (⟨#[]⟩ : ByteArray)⟩ : S48)]), bt209.2)) else (none))) else (if bt196.1 = 2 then (spec_l13AnyMatches.l0 k t192 s0_0 bt196.2) else (some (t192, bt196.2)))))) = some (r1, r2) := H
  have A2 := Aside0.mk A20
  clear A20
  replace H := Option.bind_eq_some_iff.mp H
  obtain ⟨⟨t196, t197⟩, A30, H⟩ := H
  replace H : (if t196 = 0 then ((spec_l1Rd_one.f k s0_0 t197 (([0, 5] : List Int))).bind fun bt201 => (if t192.length < 3518437208883 then (some ((t192 ++ [(⟨bt201.1, (⟨#[97, 112, 112]⟩ : ByteArray), (⟨#[]⟩ : ByteArray)⟩ : S48)]), bt201.2)) else (none))) else (if t196 = 1 then ((spec_l1Rd_of.f k s0_0 t197 (([(⟨#[]⟩ : ByteArray), (⟨#[65]⟩ : ByteArray)] : List ByteArray))).bind fun bt209 => (if t192.length < 3518437208883 then (some ((t192 ++ [(⟨1, bt209.1, (⟨#[]⟩ : ByteArray)⟩ : S48)]), bt209.2)) else (none))) else (if t196 = 2 then (spec_l13AnyMatches.l0 k t192 s0_0 t197) else (some (t192, t197))))) = some (r1, r2) := H
  have A3 := Aside0.mk A30
  clear A30
  by_cases c4 : t196 = 0
  · rw [if_pos c4] at H
    have c4b0 : (t196 == 0) = true := beq_iff_eq.mpr c4
    have c4b1 : (t196 != 0) = false := bne_eq_false_iff_eq.mpr c4
    clear c4
    obtain ⟨y198, hy198⟩ : ∃ y_ : List Int, y_ = (([0, 5] : List Int)) := ⟨_, rfl⟩
    replace H : ((spec_l1Rd_one.f k s0_0 t197 y198).bind fun bt201 => (if t192.length < 3518437208883 then (some ((t192 ++ [(⟨bt201.1, (⟨#[97, 112, 112]⟩ : ByteArray), (⟨#[]⟩ : ByteArray)⟩ : S48)]), bt201.2)) else (none))) = some (r1, r2) := by first | (rw [hy198]; with_reducible exact H) | (have H2_ := (Option.bind_some _ _).symm.trans H; rw [hy198]; with_reducible exact H2_) | (have H2_ := (Option.bind_some _ _).symm.trans H; with_reducible exact H2_) | with_reducible exact H | (rw [hy198]; exact H) | exact H
    have Ny198 := Aside0.mk hy198
    clear hy198
    replace H := Option.bind_eq_some_iff.mp H
    obtain ⟨⟨t201, t202⟩, A50, H⟩ := H
    replace H : (if t192.length < 3518437208883 then (some ((t192 ++ [(⟨t201, (⟨#[97, 112, 112]⟩ : ByteArray), (⟨#[]⟩ : ByteArray)⟩ : S48)]), t202)) else (none)) = some (r1, r2) := H
    have A5 := Aside0.mk A50
    clear A50
    by_cases c6 : t192.length < 3518437208883
    · rw [if_pos c6] at H
      have LMc6 := Aside0.mk c6
      clear c6
      obtain ⟨y203, hy203⟩ : ∃ y_ : List (S48), y_ = (t192 ++ [(⟨t201, (⟨#[97, 112, 112]⟩ : ByteArray), (⟨#[]⟩ : ByteArray)⟩ : S48)]) := ⟨_, rfl⟩
      replace H : (some (y203, t202)) = some (r1, r2) := by first | (rw [hy203]; with_reducible exact H) | (have H2_ := (Option.bind_some _ _).symm.trans H; rw [hy203]; with_reducible exact H2_) | (have H2_ := (Option.bind_some _ _).symm.trans H; with_reducible exact H2_) | with_reducible exact H | (rw [hy203]; exact H) | exact H
      have Ny203 := Aside0.mk hy203
      clear hy203
      simp only [Option.some.injEq, Prod.mk.injEq] at H
      obtain ⟨rfl, rfl⟩ := H
      go_enter Try.func54, Try.ntmps54
      go_wp2_with (first | ((with_reducible refine gate_callee (f := 77) rfl ?_); refine goesL_ (some 5) rfl rfl Try.func77 (by kernel_rfl) rfl #[.pointer (some ⟨g, 0, none⟩)] rfl (by (try simp only [List.map_toArray, List.map_cons, List.map_nil]); first | done | rfl | (simp only [List.length_drop, List.length_take]; rfl)) ?_; (with_reducible refine (spec_l13Matches.calls k g s0_0 s0_1 t192 t195 w0 _ ?side1 ?side2 A2.out).mono ?_); (case side1 => repeat (first | (with_reducible first | exact HI0.out | apply IsS102.alloc | apply IsS102.drewN | apply IsS102.drew | apply IsS102.set_1) | exact HI0.out)); (case side2 => repeat (first | (with_reducible first | exact HB.out | apply below_alloc | apply pw_below_drewN | apply below_drew1 | refine below_set ?_ (IsS102.ge HI0.out)) | exact HB.out)); rintro e w7 ⟨v193, rfl, ho0, hi, hb, hk⟩; refine ⟨_, rfl, ?_⟩; have n0_ := Aside0.mk (Kd.R_lower ho0 (keep_size (w := w) (g := g) (row := none) (by repeat (first | (with_reducible first | exact HK.out | apply KeepBut.set_ | apply keep_drewN | apply keep_drew | apply keep_alloc) | exact HK.out)))); have n1_ := Aside0.mk (KeepBut.trans (by repeat (first | (with_reducible first | exact HK.out | apply KeepBut.set_ | apply keep_drewN | apply keep_drew | apply keep_alloc) | exact HK.out)) hk (.inl rfl)); have n2_ := Aside0.mk (hb); have n3_ := Aside0.mk (hi); clear HK; clear HB; clear HI0; have HO194 := n0_; have HK := n1_; have HB := n2_; have HI0 := n3_; clear n0_ n1_ n2_ n3_; (try clear hb); (try clear hb2); (try clear hk); (try clear hi); (try clear ho0)) | ((with_reducible refine gate_callee (f := 45) rfl ?_); refine goesL_ (some 7) rfl rfl Try.func45 (by kernel_rfl) rfl #[.pointer (some ⟨g, 0, none⟩), .int .i64 20] rfl (by (try simp only [List.map_toArray, List.map_cons, List.map_nil]); first | done | rfl | (simp only [List.length_drop, List.length_take]; rfl)) ?_; (with_reducible refine (spec_l1Rd_pick.calls k g s0_0 t195 20 t196 t197 w0 _ ?side1 ?side2 A3.out).mono ?_); (case side1 => repeat (first | (with_reducible first | exact HI0.out | apply IsS102.alloc | apply IsS102.drewN | apply IsS102.drew | apply IsS102.set_1) | exact HI0.out)); (case side2 => repeat (first | (with_reducible first | exact HB.out | apply below_alloc | apply pw_below_drewN | apply below_drew1 | refine below_set ?_ (IsS102.ge HI0.out)) | exact HB.out)); rintro e w8 ⟨rfl, hi, hb, hk⟩; refine ⟨_, rfl, ?_⟩; have n0_ := Aside0.mk (Kd.R_mono (Kd.R_keep (IsS102.apart (show IsS102 w0 _ g s0_0 t195 from by repeat (first | (with_reducible first | exact HI0.out | apply IsS102.alloc | apply IsS102.drewN | apply IsS102.drew | apply IsS102.set_1) | exact HI0.out)) (by (with_reducible repeat (first | apply Kd.R_alloc | apply Kd.R_drewN | apply Kd.R_drew)); exact HO194.out) (by decide)) hk (fun _ h => h.2)) (fun _ h => h.1)); have n1_ := Aside0.mk (KeepBut.trans (by repeat (first | (with_reducible first | exact HK.out | apply KeepBut.set_ | apply keep_drewN | apply keep_drew | apply keep_alloc) | exact HK.out)) hk (.inl rfl)); have n2_ := Aside0.mk (hb); have n3_ := Aside0.mk (hi); clear HO194; clear HK; clear HB; clear HI0; have HO194 := n0_; have HK := n1_; have HB := n2_; have HI0 := n3_; clear n0_ n1_ n2_ n3_; (try clear hb); (try clear hb2); (try clear hk); (try clear hi)) | ((with_reducible refine gate_dst (N := 12) rfl ?_); refine Kd.R_lit (Kd.int .i64) _ 3 ?hg (N := 12) ?hd (xs := ([0, 5] : List Int)) (inner := [.int .i64 0, .int .i64 5]) (ok := fun _ => True) (okp := fun _ => True) ?hr ?hp (fun _ hk => hk) trivial (Below.refl _ _) (Nat.le_refl _) (by simp) ?_; (case hd => rfl); (case hg => rfl); (case hr => first | (go_simp; done) | (go_simp; rfl)); (case hp => exact (Reps.one (show Kd.M (Kd.int .i64) _ _ _ 0 [.int .i64 0] from rfl) (Reps.one (show Kd.M (Kd.int .i64) _ _ _ 5 [.int .i64 5] from rfl) (Reps.none _ _)))); intro v199 w9 ho10 hb hg_ hnew_; clear hg_ hnew_; (first | rw [← Ny198.out] at ho10 | (simp only [Int.reduceToNat] at ho10; rw [← Ny198.out] at ho10)); have n0_ := Aside0.mk (Kd.R_below (by (with_reducible repeat (first | apply Kd.R_alloc | apply Kd.R_drewN | apply Kd.R_drew)); exact HO194.out) hb); have n1_ := Aside0.mk (Kd.R_lower ho10 (keep_size (w := w) (g := g) (row := none) (by repeat (first | (with_reducible first | exact HK.out | apply KeepBut.set_ | apply keep_drewN | apply keep_drew | apply keep_alloc) | exact HK.out)))); have n2_ := Aside0.mk (IsS102.below (by repeat (first | (with_reducible first | exact HI0.out | apply IsS102.alloc | apply IsS102.drewN | apply IsS102.drew | apply IsS102.set_1) | exact HI0.out)) hb); have n3_ := Aside0.mk (KeepBut.trans (by repeat (first | (with_reducible first | exact HK.out | apply KeepBut.set_ | apply keep_drewN | apply keep_drew | apply keep_alloc) | exact HK.out)) (KeepBut.of_below hb g none) (.inl rfl)); have n4_ := Aside0.mk (below_step (by repeat (first | (with_reducible first | exact HB.out | apply below_alloc | apply pw_below_drewN | apply below_drew1 | refine below_set ?_ (IsS102.ge HI0.out)) | exact HB.out)) hb); clear HO194; clear HI0; clear HK; clear HB; have HO194 := n0_; have HO200 := n1_; have HI0 := n2_; have HK := n3_; have HB := n4_; clear n0_ n1_ n2_ n3_ n4_; clear hb ho10; obtain ⟨Ao11, co11, eo11⟩ := Kd.R_slice HO200.out; subst eo11) | ((with_reducible refine gate_callee (f := 78) rfl ?_); refine goesL_ (some 13) rfl rfl Try.func78 (by kernel_rfl) rfl #[.pointer (some ⟨g, 0, none⟩), .slice Ao11 y198.length co11] rfl (by (try simp only [List.map_toArray, List.map_cons, List.map_nil]); first | done | rfl | (simp only [List.length_drop, List.length_take]; rfl)) ?_; (with_reducible refine (spec_l1Rd_one.calls k g s0_0 t197 _ _ y198 t201 t202 w0 _ ?side1 ?side2 ?side3 ?side4 ?side5 A5.out).mono ?_); (case side1 => repeat (first | (with_reducible first | exact HI0.out | apply IsS102.alloc | apply IsS102.drewN | apply IsS102.drew | apply IsS102.set_1) | exact HI0.out)); (case side2 => repeat (first | (with_reducible first | exact HB.out | apply below_alloc | apply pw_below_drewN | apply below_drew1 | refine below_set ?_ (IsS102.ge HI0.out)) | exact HB.out)); (case side3 => repeat (first | exact (Kd.R_reads' HO200.out).2.2 | (with_reducible refine Kd.C_alloc ?_ _) | (with_reducible refine Kd.C_drewN ?_ _) | (with_reducible refine Kd.C_drew ?_))); (case side4 => exact (Kd.R_reads' HO200.out).2.1); (case side5 => exact far_slice (IsS102.own_ne HI0.out HO200.out (by decide))); rintro e w12 ⟨rfl, hi, hb, hk⟩; refine ⟨_, rfl, ?_⟩; have n0_ := Aside0.mk (Kd.R_mono (Kd.R_keep (IsS102.apart (show IsS102 w0 _ g s0_0 t197 from by repeat (first | (with_reducible first | exact HI0.out | apply IsS102.alloc | apply IsS102.drewN | apply IsS102.drew | apply IsS102.set_1) | exact HI0.out)) (by (with_reducible repeat (first | apply Kd.R_alloc | apply Kd.R_drewN | apply Kd.R_drew)); exact HO194.out) (by decide)) hk (fun _ h => h.2)) (fun _ h => h.1)); have n1_ := Aside0.mk (Kd.R_mono (Kd.R_keep (IsS102.apart (show IsS102 w0 _ g s0_0 t197 from by repeat (first | (with_reducible first | exact HI0.out | apply IsS102.alloc | apply IsS102.drewN | apply IsS102.drew | apply IsS102.set_1) | exact HI0.out)) (by (with_reducible repeat (first | apply Kd.R_alloc | apply Kd.R_drewN | apply Kd.R_drew)); exact HO200.out) (by decide)) hk (fun _ h => h.2)) (fun _ h => h.1)); have n2_ := Aside0.mk (KeepBut.trans (by repeat (first | (with_reducible first | exact HK.out | apply KeepBut.set_ | apply keep_drewN | apply keep_drew | apply keep_alloc) | exact HK.out)) hk (.inl rfl)); have n3_ := Aside0.mk (hb); have n4_ := Aside0.mk (hi); clear HO194; clear HO200; clear HK; clear HB; clear HI0; have HO194 := n0_; have HO200 := n1_; have HK := n2_; have HB := n3_; have HI0 := n4_; clear n0_ n1_ n2_ n3_ n4_; (try clear hb); (try clear hb2); (try clear hk); (try clear hi)) | ((with_reducible refine gate_builtin (b := .append) (xs := #[.tmp 10, .tmp 15]) rfl ?_); at_builtin; refine Kd.R_append k48 w.heap.size rfl (.tmp 10) (.tmp 15) 39 48 (.agg #[(.int .i64 0), (.string ⟨#[]⟩), (.string ⟨#[]⟩)]) 40 rfl Try.underlying39 info48 rfl (by decide) (by omega) v193 t192 (⟨t201, (⟨#[97, 112, 112]⟩ : ByteArray), (⟨#[]⟩ : ByteArray)⟩ : S48) [.int .i64 t201, .string (⟨#[97, 112, 112]⟩ : ByteArray), .string (⟨#[]⟩ : ByteArray)] (fun _ => True) (fun _ => False) rfl rfl ?aP (fun _ hk => hk.elim) ?aF ?aO (Below.refl _ _) ?aS ?aL ?_; (case aP => exact k48_mkM _ _ _ (⟨t201, (⟨#[97, 112, 112]⟩ : ByteArray), (⟨#[]⟩ : ByteArray)⟩ : S48)); (case aF => exact (fun _ _ => trivial)); (case aO => exact (by (with_reducible repeat (first | apply Kd.R_alloc | apply Kd.R_drewN | apply Kd.R_drew)); exact HO194.out)); (case aS => exact (keep_size (w := w) (g := g) (row := none) (by repeat (first | (with_reducible first | exact HK.out | apply KeepBut.set_ | apply keep_drewN | apply keep_drew | apply keep_alloc) | exact HK.out)))); (case aL => have := LMc6.out; omega); intro v204 w13 ho hb hg hat; rw [← Ny203.out] at ho; have n0_ := Aside0.mk (IsS102.grown (by repeat (first | (with_reducible first | exact HI0.out | apply IsS102.alloc | apply IsS102.drewN | apply IsS102.drew | apply IsS102.set_1) | exact HI0.out)) hg (IsS102.own_ne HI0.out HO194.out (by decide))); have n1_ := Aside0.mk (Kd.R_over' (by (with_reducible repeat (first | apply Kd.R_alloc | apply Kd.R_drewN | apply Kd.R_drew)); exact HO200.out) (Kd.R_typed (by (with_reducible repeat (first | apply Kd.R_alloc | apply Kd.R_drewN | apply Kd.R_drew)); exact HO194.out)) (by decide) hg); have n2_ := Aside0.mk (below_weaken (by repeat (first | (with_reducible first | exact HB.out | apply below_alloc | apply pw_below_drewN | apply below_drew1 | refine below_set ?_ (IsS102.ge HI0.out)) | exact HB.out)) HL.out hb); have n3_ := Aside0.mk (KeepBut.trans (by repeat (first | (with_reducible first | exact HK.out | apply KeepBut.set_ | apply keep_drewN | apply keep_drew | apply keep_alloc) | exact HK.out)) (KeepBut.of_grown hg g) (Kd.R_base2 HO194.out)); have n4_ := Aside0.mk (ho); clear HI0; clear HO200; clear HB; clear HK; clear HO194; have HI0 := n0_; have HO200 := n1_; have HB := n2_; have HK := n3_; have HO205 := n4_; clear n0_ n1_ n2_ n3_ n4_; clear ho hb hg hat))
      go_ret
      exact ⟨_, by first | rfl | (simp [errW_none, errW_some] <;> rfl) | (simp [*, errW_none, errW_some] <;> rfl), by (with_reducible repeat (first | apply Kd.R_alloc | apply Kd.R_drewN | apply Kd.R_drew)); exact HO205.out, by repeat (first | (with_reducible first | exact HI0.out | apply IsS102.alloc | apply IsS102.drewN | apply IsS102.drew | apply IsS102.set_1) | exact HI0.out), by repeat (first | (with_reducible first | exact HB.out | apply below_alloc | apply pw_below_drewN | apply below_drew1 | refine below_set ?_ (IsS102.ge HI0.out)) | exact HB.out), by repeat (first | (with_reducible first | exact HK.out | apply KeepBut.set_ | apply keep_drewN | apply keep_drew | apply keep_alloc) | exact HK.out)⟩
    · rw [if_neg c6] at H
      exact absurd H (by simp)
  · rw [if_neg c4] at H
    have c4b0 : (t196 == 0) = false := beq_eq_false_iff_ne.mpr c4
    have c4b1 : (t196 != 0) = true := bne_iff_ne.mpr c4
    by_cases c14 : t196 = 1
    · rw [if_pos c14] at H
      have c14b0 : (t196 == 1) = true := beq_iff_eq.mpr c14
      have c14b1 : (t196 != 1) = false := bne_eq_false_iff_eq.mpr c14
      clear c14
      obtain ⟨y206, hy206⟩ : ∃ y_ : List ByteArray, y_ = (([(⟨#[]⟩ : ByteArray), (⟨#[65]⟩ : ByteArray)] : List ByteArray)) := ⟨_, rfl⟩
      replace H : ((spec_l1Rd_of.f k s0_0 t197 y206).bind fun bt209 => (if t192.length < 3518437208883 then (some ((t192 ++ [(⟨1, bt209.1, (⟨#[]⟩ : ByteArray)⟩ : S48)]), bt209.2)) else (none))) = some (r1, r2) := by first | (rw [hy206]; with_reducible exact H) | (have H2_ := (Option.bind_some _ _).symm.trans H; rw [hy206]; with_reducible exact H2_) | (have H2_ := (Option.bind_some _ _).symm.trans H; with_reducible exact H2_) | with_reducible exact H | (rw [hy206]; exact H) | exact H
      have Ny206 := Aside0.mk hy206
      clear hy206
      replace H := Option.bind_eq_some_iff.mp H
      obtain ⟨⟨t209, t210⟩, A150, H⟩ := H
      replace H : (if t192.length < 3518437208883 then (some ((t192 ++ [(⟨1, t209, (⟨#[]⟩ : ByteArray)⟩ : S48)]), t210)) else (none)) = some (r1, r2) := H
      have A15 := Aside0.mk A150
      clear A150
      by_cases c16 : t192.length < 3518437208883
      · rw [if_pos c16] at H
        have LMc16 := Aside0.mk c16
        clear c16
        obtain ⟨y211, hy211⟩ : ∃ y_ : List (S48), y_ = (t192 ++ [(⟨1, t209, (⟨#[]⟩ : ByteArray)⟩ : S48)]) := ⟨_, rfl⟩
        replace H : (some (y211, t210)) = some (r1, r2) := by first | (rw [hy211]; with_reducible exact H) | (have H2_ := (Option.bind_some _ _).symm.trans H; rw [hy211]; with_reducible exact H2_) | (have H2_ := (Option.bind_some _ _).symm.trans H; with_reducible exact H2_) | with_reducible exact H | (rw [hy211]; exact H) | exact H
        have Ny211 := Aside0.mk hy211
        clear hy211
        simp only [Option.some.injEq, Prod.mk.injEq] at H
        obtain ⟨rfl, rfl⟩ := H
        go_enter Try.func54, Try.ntmps54
        go_wp2_with (first | ((with_reducible refine gate_callee (f := 77) rfl ?_); refine goesL_ (some 5) rfl rfl Try.func77 (by kernel_rfl) rfl #[.pointer (some ⟨g, 0, none⟩)] rfl (by (try simp only [List.map_toArray, List.map_cons, List.map_nil]); first | done | rfl | (simp only [List.length_drop, List.length_take]; rfl)) ?_; (with_reducible refine (spec_l13Matches.calls k g s0_0 s0_1 t192 t195 w0 _ ?side1 ?side2 A2.out).mono ?_); (case side1 => repeat (first | (with_reducible first | exact HI0.out | apply IsS102.alloc | apply IsS102.drewN | apply IsS102.drew | apply IsS102.set_1) | exact HI0.out)); (case side2 => repeat (first | (with_reducible first | exact HB.out | apply below_alloc | apply pw_below_drewN | apply below_drew1 | refine below_set ?_ (IsS102.ge HI0.out)) | exact HB.out)); rintro e w17 ⟨v193, rfl, ho0, hi, hb, hk⟩; refine ⟨_, rfl, ?_⟩; have n0_ := Aside0.mk (Kd.R_lower ho0 (keep_size (w := w) (g := g) (row := none) (by repeat (first | (with_reducible first | exact HK.out | apply KeepBut.set_ | apply keep_drewN | apply keep_drew | apply keep_alloc) | exact HK.out)))); have n1_ := Aside0.mk (KeepBut.trans (by repeat (first | (with_reducible first | exact HK.out | apply KeepBut.set_ | apply keep_drewN | apply keep_drew | apply keep_alloc) | exact HK.out)) hk (.inl rfl)); have n2_ := Aside0.mk (hb); have n3_ := Aside0.mk (hi); clear HK; clear HB; clear HI0; have HO194 := n0_; have HK := n1_; have HB := n2_; have HI0 := n3_; clear n0_ n1_ n2_ n3_; (try clear hb); (try clear hb2); (try clear hk); (try clear hi); (try clear ho0)) | ((with_reducible refine gate_callee (f := 45) rfl ?_); refine goesL_ (some 7) rfl rfl Try.func45 (by kernel_rfl) rfl #[.pointer (some ⟨g, 0, none⟩), .int .i64 20] rfl (by (try simp only [List.map_toArray, List.map_cons, List.map_nil]); first | done | rfl | (simp only [List.length_drop, List.length_take]; rfl)) ?_; (with_reducible refine (spec_l1Rd_pick.calls k g s0_0 t195 20 t196 t197 w0 _ ?side1 ?side2 A3.out).mono ?_); (case side1 => repeat (first | (with_reducible first | exact HI0.out | apply IsS102.alloc | apply IsS102.drewN | apply IsS102.drew | apply IsS102.set_1) | exact HI0.out)); (case side2 => repeat (first | (with_reducible first | exact HB.out | apply below_alloc | apply pw_below_drewN | apply below_drew1 | refine below_set ?_ (IsS102.ge HI0.out)) | exact HB.out)); rintro e w18 ⟨rfl, hi, hb, hk⟩; refine ⟨_, rfl, ?_⟩; have n0_ := Aside0.mk (Kd.R_mono (Kd.R_keep (IsS102.apart (show IsS102 w0 _ g s0_0 t195 from by repeat (first | (with_reducible first | exact HI0.out | apply IsS102.alloc | apply IsS102.drewN | apply IsS102.drew | apply IsS102.set_1) | exact HI0.out)) (by (with_reducible repeat (first | apply Kd.R_alloc | apply Kd.R_drewN | apply Kd.R_drew)); exact HO194.out) (by decide)) hk (fun _ h => h.2)) (fun _ h => h.1)); have n1_ := Aside0.mk (KeepBut.trans (by repeat (first | (with_reducible first | exact HK.out | apply KeepBut.set_ | apply keep_drewN | apply keep_drew | apply keep_alloc) | exact HK.out)) hk (.inl rfl)); have n2_ := Aside0.mk (hb); have n3_ := Aside0.mk (hi); clear HO194; clear HK; clear HB; clear HI0; have HO194 := n0_; have HK := n1_; have HB := n2_; have HI0 := n3_; clear n0_ n1_ n2_ n3_; (try clear hb); (try clear hb2); (try clear hk); (try clear hi)) | ((with_reducible refine gate_dst (N := 21) rfl ?_); refine Kd.R_lit Kd.string _ 9 ?hg (N := 21) ?hd (xs := ([(⟨#[]⟩ : ByteArray), (⟨#[65]⟩ : ByteArray)] : List ByteArray)) (inner := [.string (⟨#[]⟩ : ByteArray), .string (⟨#[65]⟩ : ByteArray)]) (ok := fun _ => True) (okp := fun _ => True) ?hr ?hp (fun _ hk => hk) trivial (Below.refl _ _) (Nat.le_refl _) (by simp) ?_; (case hd => rfl); (case hg => rfl); (case hr => first | (go_simp; done) | (go_simp; rfl)); (case hp => exact (Reps.one (show Kd.M Kd.string _ _ _ (⟨#[]⟩ : ByteArray) [.string (⟨#[]⟩ : ByteArray)] from rfl) (Reps.one (show Kd.M Kd.string _ _ _ (⟨#[65]⟩ : ByteArray) [.string (⟨#[65]⟩ : ByteArray)] from rfl) (Reps.none _ _)))); intro v207 w19 ho20 hb hg_ hnew_; clear hg_ hnew_; (first | rw [← Ny206.out] at ho20 | (simp only [Int.reduceToNat] at ho20; rw [← Ny206.out] at ho20)); have n0_ := Aside0.mk (Kd.R_below (by (with_reducible repeat (first | apply Kd.R_alloc | apply Kd.R_drewN | apply Kd.R_drew)); exact HO194.out) hb); have n1_ := Aside0.mk (Kd.R_lower ho20 (keep_size (w := w) (g := g) (row := none) (by repeat (first | (with_reducible first | exact HK.out | apply KeepBut.set_ | apply keep_drewN | apply keep_drew | apply keep_alloc) | exact HK.out)))); have n2_ := Aside0.mk (IsS102.below (by repeat (first | (with_reducible first | exact HI0.out | apply IsS102.alloc | apply IsS102.drewN | apply IsS102.drew | apply IsS102.set_1) | exact HI0.out)) hb); have n3_ := Aside0.mk (KeepBut.trans (by repeat (first | (with_reducible first | exact HK.out | apply KeepBut.set_ | apply keep_drewN | apply keep_drew | apply keep_alloc) | exact HK.out)) (KeepBut.of_below hb g none) (.inl rfl)); have n4_ := Aside0.mk (below_step (by repeat (first | (with_reducible first | exact HB.out | apply below_alloc | apply pw_below_drewN | apply below_drew1 | refine below_set ?_ (IsS102.ge HI0.out)) | exact HB.out)) hb); clear HO194; clear HI0; clear HK; clear HB; have HO194 := n0_; have HO208 := n1_; have HI0 := n2_; have HK := n3_; have HB := n4_; clear n0_ n1_ n2_ n3_ n4_; clear hb ho20; obtain ⟨Ao21, co21, eo21⟩ := Kd.R_slice HO208.out; subst eo21) | ((with_reducible refine gate_callee (f := 71) rfl ?_); refine goesL_ (some 22) rfl rfl Try.func71 (by kernel_rfl) rfl #[.pointer (some ⟨g, 0, none⟩), .slice Ao21 y206.length co21] rfl (by (try simp only [List.map_toArray, List.map_cons, List.map_nil]); first | done | rfl | (simp only [List.length_drop, List.length_take]; rfl)) ?_; (with_reducible refine (spec_l1Rd_of.calls k g s0_0 t197 _ _ y206 t209 t210 w0 _ ?side1 ?side2 ?side3 ?side4 ?side5 A15.out).mono ?_); (case side1 => repeat (first | (with_reducible first | exact HI0.out | apply IsS102.alloc | apply IsS102.drewN | apply IsS102.drew | apply IsS102.set_1) | exact HI0.out)); (case side2 => repeat (first | (with_reducible first | exact HB.out | apply below_alloc | apply pw_below_drewN | apply below_drew1 | refine below_set ?_ (IsS102.ge HI0.out)) | exact HB.out)); (case side3 => repeat (first | exact (Kd.R_reads' HO208.out).2.2 | (with_reducible refine Kd.C_alloc ?_ _) | (with_reducible refine Kd.C_drewN ?_ _) | (with_reducible refine Kd.C_drew ?_))); (case side4 => exact (Kd.R_reads' HO208.out).2.1); (case side5 => exact far_slice (IsS102.own_ne HI0.out HO208.out (by decide))); rintro e w22 ⟨rfl, hi, hb, hk⟩; refine ⟨_, rfl, ?_⟩; have n0_ := Aside0.mk (Kd.R_mono (Kd.R_keep (IsS102.apart (show IsS102 w0 _ g s0_0 t197 from by repeat (first | (with_reducible first | exact HI0.out | apply IsS102.alloc | apply IsS102.drewN | apply IsS102.drew | apply IsS102.set_1) | exact HI0.out)) (by (with_reducible repeat (first | apply Kd.R_alloc | apply Kd.R_drewN | apply Kd.R_drew)); exact HO194.out) (by decide)) hk (fun _ h => h.2)) (fun _ h => h.1)); have n1_ := Aside0.mk (Kd.R_mono (Kd.R_keep (IsS102.apart (show IsS102 w0 _ g s0_0 t197 from by repeat (first | (with_reducible first | exact HI0.out | apply IsS102.alloc | apply IsS102.drewN | apply IsS102.drew | apply IsS102.set_1) | exact HI0.out)) (by (with_reducible repeat (first | apply Kd.R_alloc | apply Kd.R_drewN | apply Kd.R_drew)); exact HO208.out) (by decide)) hk (fun _ h => h.2)) (fun _ h => h.1)); have n2_ := Aside0.mk (KeepBut.trans (by repeat (first | (with_reducible first | exact HK.out | apply KeepBut.set_ | apply keep_drewN | apply keep_drew | apply keep_alloc) | exact HK.out)) hk (.inl rfl)); have n3_ := Aside0.mk (hb); have n4_ := Aside0.mk (hi); clear HO194; clear HO208; clear HK; clear HB; clear HI0; have HO194 := n0_; have HO208 := n1_; have HK := n2_; have HB := n3_; have HI0 := n4_; clear n0_ n1_ n2_ n3_ n4_; (try clear hb); (try clear hb2); (try clear hk); (try clear hi)) | ((with_reducible refine gate_builtin (b := .append) (xs := #[.tmp 19, .tmp 24]) rfl ?_); at_builtin; refine Kd.R_append k48 w.heap.size rfl (.tmp 19) (.tmp 24) 39 48 (.agg #[(.int .i64 0), (.string ⟨#[]⟩), (.string ⟨#[]⟩)]) 40 rfl Try.underlying39 info48 rfl (by decide) (by omega) v193 t192 (⟨1, t209, (⟨#[]⟩ : ByteArray)⟩ : S48) [.int .i64 1, .string t209, .string (⟨#[]⟩ : ByteArray)] (fun _ => True) (fun _ => False) rfl rfl ?aP (fun _ hk => hk.elim) ?aF ?aO (Below.refl _ _) ?aS ?aL ?_; (case aP => exact k48_mkM _ _ _ (⟨1, t209, (⟨#[]⟩ : ByteArray)⟩ : S48)); (case aF => exact (fun _ _ => trivial)); (case aO => exact (by (with_reducible repeat (first | apply Kd.R_alloc | apply Kd.R_drewN | apply Kd.R_drew)); exact HO194.out)); (case aS => exact (keep_size (w := w) (g := g) (row := none) (by repeat (first | (with_reducible first | exact HK.out | apply KeepBut.set_ | apply keep_drewN | apply keep_drew | apply keep_alloc) | exact HK.out)))); (case aL => have := LMc16.out; omega); intro v212 w23 ho hb hg hat; rw [← Ny211.out] at ho; have n0_ := Aside0.mk (IsS102.grown (by repeat (first | (with_reducible first | exact HI0.out | apply IsS102.alloc | apply IsS102.drewN | apply IsS102.drew | apply IsS102.set_1) | exact HI0.out)) hg (IsS102.own_ne HI0.out HO194.out (by decide))); have n1_ := Aside0.mk (Kd.R_over' (by (with_reducible repeat (first | apply Kd.R_alloc | apply Kd.R_drewN | apply Kd.R_drew)); exact HO208.out) (Kd.R_typed (by (with_reducible repeat (first | apply Kd.R_alloc | apply Kd.R_drewN | apply Kd.R_drew)); exact HO194.out)) (by decide) hg); have n2_ := Aside0.mk (below_weaken (by repeat (first | (with_reducible first | exact HB.out | apply below_alloc | apply pw_below_drewN | apply below_drew1 | refine below_set ?_ (IsS102.ge HI0.out)) | exact HB.out)) HL.out hb); have n3_ := Aside0.mk (KeepBut.trans (by repeat (first | (with_reducible first | exact HK.out | apply KeepBut.set_ | apply keep_drewN | apply keep_drew | apply keep_alloc) | exact HK.out)) (KeepBut.of_grown hg g) (Kd.R_base2 HO194.out)); have n4_ := Aside0.mk (ho); clear HI0; clear HO208; clear HB; clear HK; clear HO194; have HI0 := n0_; have HO208 := n1_; have HB := n2_; have HK := n3_; have HO213 := n4_; clear n0_ n1_ n2_ n3_ n4_; clear ho hb hg hat))
        go_ret
        exact ⟨_, by first | rfl | (simp [errW_none, errW_some] <;> rfl) | (simp [*, errW_none, errW_some] <;> rfl), by (with_reducible repeat (first | apply Kd.R_alloc | apply Kd.R_drewN | apply Kd.R_drew)); exact HO213.out, by repeat (first | (with_reducible first | exact HI0.out | apply IsS102.alloc | apply IsS102.drewN | apply IsS102.drew | apply IsS102.set_1) | exact HI0.out), by repeat (first | (with_reducible first | exact HB.out | apply below_alloc | apply pw_below_drewN | apply below_drew1 | refine below_set ?_ (IsS102.ge HI0.out)) | exact HB.out), by repeat (first | (with_reducible first | exact HK.out | apply KeepBut.set_ | apply keep_drewN | apply keep_drew | apply keep_alloc) | exact HK.out)⟩
      · rw [if_neg c16] at H
        exact absurd H (by simp)
    · rw [if_neg c14] at H
      have c14b0 : (t196 == 1) = false := beq_eq_false_iff_ne.mpr c14
      have c14b1 : (t196 != 1) = true := bne_iff_ne.mpr c14
      by_cases c24 : t196 = 2
      · rw [if_pos c24] at H
        have c24b0 : (t196 == 2) = true := beq_iff_eq.mpr c24
        have c24b1 : (t196 != 2) = false := bne_eq_false_iff_eq.mpr c24
        clear c24
        have H' := Aside0.mk H
        clear H
        go_enter Try.func54, Try.ntmps54
        go_wp2_with (first | ((with_reducible refine gate_callee (f := 77) rfl ?_); refine goesL_ (some 5) rfl rfl Try.func77 (by kernel_rfl) rfl #[.pointer (some ⟨g, 0, none⟩)] rfl (by (try simp only [List.map_toArray, List.map_cons, List.map_nil]); first | done | rfl | (simp only [List.length_drop, List.length_take]; rfl)) ?_; (with_reducible refine (spec_l13Matches.calls k g s0_0 s0_1 t192 t195 w0 _ ?side1 ?side2 A2.out).mono ?_); (case side1 => repeat (first | (with_reducible first | exact HI0.out | apply IsS102.alloc | apply IsS102.drewN | apply IsS102.drew | apply IsS102.set_1) | exact HI0.out)); (case side2 => repeat (first | (with_reducible first | exact HB.out | apply below_alloc | apply pw_below_drewN | apply below_drew1 | refine below_set ?_ (IsS102.ge HI0.out)) | exact HB.out)); rintro e w25 ⟨v193, rfl, ho0, hi, hb, hk⟩; refine ⟨_, rfl, ?_⟩; have n0_ := Aside0.mk (Kd.R_lower ho0 (keep_size (w := w) (g := g) (row := none) (by repeat (first | (with_reducible first | exact HK.out | apply KeepBut.set_ | apply keep_drewN | apply keep_drew | apply keep_alloc) | exact HK.out)))); have n1_ := Aside0.mk (KeepBut.trans (by repeat (first | (with_reducible first | exact HK.out | apply KeepBut.set_ | apply keep_drewN | apply keep_drew | apply keep_alloc) | exact HK.out)) hk (.inl rfl)); have n2_ := Aside0.mk (hb); have n3_ := Aside0.mk (hi); clear HK; clear HB; clear HI0; have HO194 := n0_; have HK := n1_; have HB := n2_; have HI0 := n3_; clear n0_ n1_ n2_ n3_; (try clear hb); (try clear hb2); (try clear hk); (try clear hi); (try clear ho0)) | ((with_reducible refine gate_callee (f := 45) rfl ?_); refine goesL_ (some 7) rfl rfl Try.func45 (by kernel_rfl) rfl #[.pointer (some ⟨g, 0, none⟩), .int .i64 20] rfl (by (try simp only [List.map_toArray, List.map_cons, List.map_nil]); first | done | rfl | (simp only [List.length_drop, List.length_take]; rfl)) ?_; (with_reducible refine (spec_l1Rd_pick.calls k g s0_0 t195 20 t196 t197 w0 _ ?side1 ?side2 A3.out).mono ?_); (case side1 => repeat (first | (with_reducible first | exact HI0.out | apply IsS102.alloc | apply IsS102.drewN | apply IsS102.drew | apply IsS102.set_1) | exact HI0.out)); (case side2 => repeat (first | (with_reducible first | exact HB.out | apply below_alloc | apply pw_below_drewN | apply below_drew1 | refine below_set ?_ (IsS102.ge HI0.out)) | exact HB.out)); rintro e w26 ⟨rfl, hi, hb, hk⟩; refine ⟨_, rfl, ?_⟩; have n0_ := Aside0.mk (Kd.R_mono (Kd.R_keep (IsS102.apart (show IsS102 w0 _ g s0_0 t195 from by repeat (first | (with_reducible first | exact HI0.out | apply IsS102.alloc | apply IsS102.drewN | apply IsS102.drew | apply IsS102.set_1) | exact HI0.out)) (by (with_reducible repeat (first | apply Kd.R_alloc | apply Kd.R_drewN | apply Kd.R_drew)); exact HO194.out) (by decide)) hk (fun _ h => h.2)) (fun _ h => h.1)); have n1_ := Aside0.mk (KeepBut.trans (by repeat (first | (with_reducible first | exact HK.out | apply KeepBut.set_ | apply keep_drewN | apply keep_drew | apply keep_alloc) | exact HK.out)) hk (.inl rfl)); have n2_ := Aside0.mk (hb); have n3_ := Aside0.mk (hi); clear HO194; clear HK; clear HB; clear HI0; have HO194 := n0_; have HK := n1_; have HB := n2_; have HI0 := n3_; clear n0_ n1_ n2_ n3_; (try clear hb); (try clear hb2); (try clear hk); (try clear hi)))
        go_loopg [3] k (fun kq v3 w' => ∃ (x3_1 : List (S48)) (x1001_1 : Int), Aside0 (spec_l13AnyMatches.l0 kq x3_1 s0_0 x1001_1 = some (r1, r2)) ∧ Aside0 (kq ≤ k) ∧ Aside0 (Kd.R k48 48 w' w.heap.size (fun _ => True) v3 x3_1) ∧ Aside0 (IsS102 w0 w' g s0_0 x1001_1) ∧ Aside0 (KeepBut w w' g none) ∧ Aside0 (Below w0.heap.size w0 w'))
        case atStart => exact ⟨(t192), (t197), H', ⟨Nat.le_refl _⟩, ⟨by (with_reducible repeat (first | apply Kd.R_alloc | apply Kd.R_drewN | apply Kd.R_drew)); exact HO194.out⟩, ⟨by repeat (first | (with_reducible first | exact HI0.out | apply IsS102.alloc | apply IsS102.drewN | apply IsS102.drew | apply IsS102.set_1) | exact HI0.out)⟩, ⟨by repeat (first | (with_reducible first | exact HK.out | apply KeepBut.set_ | apply keep_drewN | apply keep_drew | apply keep_alloc) | exact HK.out)⟩, ⟨by repeat (first | (with_reducible first | exact HB.out | apply below_alloc | apply pw_below_drewN | apply below_drew1 | refine below_set ?_ (IsS102.ge HI0.out)) | exact HB.out)⟩⟩
        case round =>
          clear H'
          try clear c1
          try clear c2
          try clear p2
          try clear c4
          try clear c4b0
          try clear c4b1
          try clear c5
          try clear c6
          try clear c7
          try clear c14
          try clear c14b0
          try clear c14b1
          try clear c16
          try clear c24
          try clear c24b0
          try clear c24b1
          obtain ⟨x3_1, x1001_1, HA, HK1, HO_3, HI0, HK, HB⟩ := hrel
          cases gk with
          | zero => exact absurd HA.out (by simp [spec_l13AnyMatches.l0])
          | succ k1 =>
            have H := HA.out
            clear HA
            simp only [spec_l13AnyMatches.l0] at H
            replace H := Option.bind_eq_some_iff.mp H
            obtain ⟨⟨t214, t215⟩, A270, H⟩ := H
            replace H : (if (x3_1.length : Int) < (wrap64 (4 + t214)) then (if x3_1.length < 3518437208883 then (spec_l13AnyMatches.l0 k1 (x3_1 ++ [(⟨2, (⟨#[97, 112, 112]⟩ : ByteArray), (⟨#[113]⟩ : ByteArray)⟩ : S48)]) s0_0 t215) else (none)) else (some (x3_1, t215))) = some (r1, r2) := H
            have A27 := Aside0.mk A270
            clear A270
            by_cases c28 : (x3_1.length : Int) < (wrap64 (4 + t214))
            · rw [if_pos c28] at H
              have c28b0 : decide ((x3_1.length : Int) < (wrap64 (4 + t214))) = true := decide_eq_true c28
              clear c28
              by_cases c29 : x3_1.length < 3518437208883
              · rw [if_pos c29] at H
                have LMc29 := Aside0.mk c29
                clear c29
                obtain ⟨y216, hy216⟩ : ∃ y_ : List (S48), y_ = (x3_1 ++ [(⟨2, (⟨#[97, 112, 112]⟩ : ByteArray), (⟨#[113]⟩ : ByteArray)⟩ : S48)]) := ⟨_, rfl⟩
                replace H : (spec_l13AnyMatches.l0 k1 y216 s0_0 t215) = some (r1, r2) := by first | (rw [hy216]; with_reducible exact H) | (have H2_ := (Option.bind_some _ _).symm.trans H; rw [hy216]; with_reducible exact H2_) | (have H2_ := (Option.bind_some _ _).symm.trans H; with_reducible exact H2_) | with_reducible exact H | (rw [hy216]; exact H) | exact H
                have Ny216 := Aside0.mk hy216
                clear hy216
                have H' := Aside0.mk H
                clear H
                obtain ⟨Ao30, co30, eo30⟩ := Kd.R_slice HO_3.out
                subst eo30
                go_wp2_with (first | ((with_reducible refine gate_callee (f := 45) rfl ?_); refine goesL_ (some 31) rfl rfl Try.func45 (by kernel_rfl) rfl #[.pointer (some ⟨g, 0, none⟩), .int .i64 2] rfl (by (try simp only [List.map_toArray, List.map_cons, List.map_nil]); first | done | rfl | (simp only [List.length_drop, List.length_take]; rfl)) ?_; (with_reducible refine (spec_l1Rd_pick.calls k1 g s0_0 x1001_1 2 t214 t215 w0 _ ?side1 ?side2 A27.out).mono ?_); (case side1 => repeat (first | (with_reducible first | exact HI0.out | apply IsS102.alloc | apply IsS102.drewN | apply IsS102.drew | apply IsS102.set_1) | exact HI0.out)); (case side2 => repeat (first | (with_reducible first | exact HB.out | apply below_alloc | apply pw_below_drewN | apply below_drew1 | refine below_set ?_ (IsS102.ge HI0.out)) | exact HB.out)); rintro e w31 ⟨rfl, hi, hb, hk⟩; refine ⟨_, rfl, ?_⟩; have n0_ := Aside0.mk (Kd.R_mono (Kd.R_keep (IsS102.apart (show IsS102 w0 _ g s0_0 x1001_1 from by repeat (first | (with_reducible first | exact HI0.out | apply IsS102.alloc | apply IsS102.drewN | apply IsS102.drew | apply IsS102.set_1) | exact HI0.out)) (by (with_reducible repeat (first | apply Kd.R_alloc | apply Kd.R_drewN | apply Kd.R_drew)); exact HO_3.out) (by decide)) hk (fun _ h => h.2)) (fun _ h => h.1)); have n1_ := Aside0.mk (KeepBut.trans (by repeat (first | (with_reducible first | exact HK.out | apply KeepBut.set_ | apply keep_drewN | apply keep_drew | apply keep_alloc) | exact HK.out)) hk (.inl rfl)); have n2_ := Aside0.mk (hb); have n3_ := Aside0.mk (hi); clear HO_3; clear HK; clear HB; clear HI0; have HO_3 := n0_; have HK := n1_; have HB := n2_; have HI0 := n3_; clear n0_ n1_ n2_ n3_; (try clear hb); (try clear hb2); (try clear hk); (try clear hi)) | ((with_reducible refine gate_builtin (b := .append) (xs := #[.tmp 34, .tmp 36]) rfl ?_); at_builtin; refine Kd.R_append k48 w.heap.size rfl (.tmp 34) (.tmp 36) 39 48 (.agg #[(.int .i64 0), (.string ⟨#[]⟩), (.string ⟨#[]⟩)]) 40 rfl Try.underlying39 info48 rfl (by decide) (by omega) (.slice Ao30 x3_1.length co30) x3_1 (⟨2, (⟨#[97, 112, 112]⟩ : ByteArray), (⟨#[113]⟩ : ByteArray)⟩ : S48) [.int .i64 2, .string (⟨#[97, 112, 112]⟩ : ByteArray), .string (⟨#[113]⟩ : ByteArray)] (fun _ => True) (fun _ => False) rfl rfl ?aP (fun _ hk => hk.elim) ?aF ?aO (Below.refl _ _) ?aS ?aL ?_; (case aP => exact k48_mkM _ _ _ (⟨2, (⟨#[97, 112, 112]⟩ : ByteArray), (⟨#[113]⟩ : ByteArray)⟩ : S48)); (case aF => exact (fun _ _ => trivial)); (case aO => exact (by (with_reducible repeat (first | apply Kd.R_alloc | apply Kd.R_drewN | apply Kd.R_drew)); exact HO_3.out)); (case aS => exact (keep_size (w := w) (g := g) (row := none) (by repeat (first | (with_reducible first | exact HK.out | apply KeepBut.set_ | apply keep_drewN | apply keep_drew | apply keep_alloc) | exact HK.out)))); (case aL => have := LMc29.out; omega); intro v217 w32 ho hb hg hat; rw [← Ny216.out] at ho; have n0_ := Aside0.mk (IsS102.grown (by repeat (first | (with_reducible first | exact HI0.out | apply IsS102.alloc | apply IsS102.drewN | apply IsS102.drew | apply IsS102.set_1) | exact HI0.out)) hg (IsS102.own_ne HI0.out HO_3.out (by decide))); have n1_ := Aside0.mk (below_weaken (by repeat (first | (with_reducible first | exact HB.out | apply below_alloc | apply pw_below_drewN | apply below_drew1 | refine below_set ?_ (IsS102.ge HI0.out)) | exact HB.out)) HL.out hb); have n2_ := Aside0.mk (KeepBut.trans (by repeat (first | (with_reducible first | exact HK.out | apply KeepBut.set_ | apply keep_drewN | apply keep_drew | apply keep_alloc) | exact HK.out)) (KeepBut.of_grown hg g) (Kd.R_base2 HO_3.out)); have n3_ := Aside0.mk (ho); clear HI0; clear HB; clear HK; clear HO_3; have HI0 := n0_; have HB := n1_; have HK := n2_; have HO218 := n3_; clear n0_ n1_ n2_ n3_; clear ho hb hg hat))
                go_roundg k1
                case measure => have := HK1.out; omega
                case rel => exact ⟨(y216), (t215), H', ⟨by have := HK1.out; omega⟩, ⟨by (with_reducible repeat (first | apply Kd.R_alloc | apply Kd.R_drewN | apply Kd.R_drew)); exact HO218.out⟩, ⟨by repeat (first | (with_reducible first | exact HI0.out | apply IsS102.alloc | apply IsS102.drewN | apply IsS102.drew | apply IsS102.set_1) | exact HI0.out)⟩, ⟨by repeat (first | (with_reducible first | exact HK.out | apply KeepBut.set_ | apply keep_drewN | apply keep_drew | apply keep_alloc) | exact HK.out)⟩, ⟨by repeat (first | (with_reducible first | exact HB.out | apply below_alloc | apply pw_below_drewN | apply below_drew1 | refine below_set ?_ (IsS102.ge HI0.out)) | exact HB.out)⟩⟩
              · rw [if_neg c29] at H
                exact absurd H (by simp)
            · rw [if_neg c28] at H
              have c28b0 : decide ((x3_1.length : Int) < (wrap64 (4 + t214))) = false := decide_eq_false c28
              clear c28
              simp only [Option.some.injEq, Prod.mk.injEq] at H
              obtain ⟨rfl, rfl⟩ := H
              obtain ⟨Ao33, co33, eo33⟩ := Kd.R_slice HO_3.out
              subst eo33
              go_wp2_with (first | ((with_reducible refine gate_callee (f := 45) rfl ?_); refine goesL_ (some 31) rfl rfl Try.func45 (by kernel_rfl) rfl #[.pointer (some ⟨g, 0, none⟩), .int .i64 2] rfl (by (try simp only [List.map_toArray, List.map_cons, List.map_nil]); first | done | rfl | (simp only [List.length_drop, List.length_take]; rfl)) ?_; (with_reducible refine (spec_l1Rd_pick.calls k1 g s0_0 x1001_1 2 t214 t215 w0 _ ?side1 ?side2 A27.out).mono ?_); (case side1 => repeat (first | (with_reducible first | exact HI0.out | apply IsS102.alloc | apply IsS102.drewN | apply IsS102.drew | apply IsS102.set_1) | exact HI0.out)); (case side2 => repeat (first | (with_reducible first | exact HB.out | apply below_alloc | apply pw_below_drewN | apply below_drew1 | refine below_set ?_ (IsS102.ge HI0.out)) | exact HB.out)); rintro e w34 ⟨rfl, hi, hb, hk⟩; refine ⟨_, rfl, ?_⟩; have n0_ := Aside0.mk (Kd.R_mono (Kd.R_keep (IsS102.apart (show IsS102 w0 _ g s0_0 x1001_1 from by repeat (first | (with_reducible first | exact HI0.out | apply IsS102.alloc | apply IsS102.drewN | apply IsS102.drew | apply IsS102.set_1) | exact HI0.out)) (by (with_reducible repeat (first | apply Kd.R_alloc | apply Kd.R_drewN | apply Kd.R_drew)); exact HO_3.out) (by decide)) hk (fun _ h => h.2)) (fun _ h => h.1)); have n1_ := Aside0.mk (KeepBut.trans (by repeat (first | (with_reducible first | exact HK.out | apply KeepBut.set_ | apply keep_drewN | apply keep_drew | apply keep_alloc) | exact HK.out)) hk (.inl rfl)); have n2_ := Aside0.mk (hb); have n3_ := Aside0.mk (hi); clear HO_3; clear HK; clear HB; clear HI0; have HO_3 := n0_; have HK := n1_; have HB := n2_; have HI0 := n3_; clear n0_ n1_ n2_ n3_; (try clear hb); (try clear hb2); (try clear hk); (try clear hi)))
              go_ret
              exact ⟨_, by first | rfl | (simp [errW_none, errW_some] <;> rfl) | (simp [*, errW_none, errW_some] <;> rfl), by (with_reducible repeat (first | apply Kd.R_alloc | apply Kd.R_drewN | apply Kd.R_drew)); exact HO_3.out, by repeat (first | (with_reducible first | exact HI0.out | apply IsS102.alloc | apply IsS102.drewN | apply IsS102.drew | apply IsS102.set_1) | exact HI0.out), by repeat (first | (with_reducible first | exact HB.out | apply below_alloc | apply pw_below_drewN | apply below_drew1 | refine below_set ?_ (IsS102.ge HI0.out)) | exact HB.out), by repeat (first | (with_reducible first | exact HK.out | apply KeepBut.set_ | apply keep_drewN | apply keep_drew | apply keep_alloc) | exact HK.out)⟩
      · rw [if_neg c24] at H
        have c24b0 : (t196 == 2) = false := beq_eq_false_iff_ne.mpr c24
        have c24b1 : (t196 != 2) = true := bne_iff_ne.mpr c24
        simp only [Option.some.injEq, Prod.mk.injEq] at H
        obtain ⟨rfl, rfl⟩ := H
        go_enter Try.func54, Try.ntmps54
        go_wp2_with (first | ((with_reducible refine gate_callee (f := 77) rfl ?_); refine goesL_ (some 5) rfl rfl Try.func77 (by kernel_rfl) rfl #[.pointer (some ⟨g, 0, none⟩)] rfl (by (try simp only [List.map_toArray, List.map_cons, List.map_nil]); first | done | rfl | (simp only [List.length_drop, List.length_take]; rfl)) ?_; (with_reducible refine (spec_l13Matches.calls k g s0_0 s0_1 t192 t195 w0 _ ?side1 ?side2 A2.out).mono ?_); (case side1 => repeat (first | (with_reducible first | exact HI0.out | apply IsS102.alloc | apply IsS102.drewN | apply IsS102.drew | apply IsS102.set_1) | exact HI0.out)); (case side2 => repeat (first | (with_reducible first | exact HB.out | apply below_alloc | apply pw_below_drewN | apply below_drew1 | refine below_set ?_ (IsS102.ge HI0.out)) | exact HB.out)); rintro e w35 ⟨v193, rfl, ho0, hi, hb, hk⟩; refine ⟨_, rfl, ?_⟩; have n0_ := Aside0.mk (Kd.R_lower ho0 (keep_size (w := w) (g := g) (row := none) (by repeat (first | (with_reducible first | exact HK.out | apply KeepBut.set_ | apply keep_drewN | apply keep_drew | apply keep_alloc) | exact HK.out)))); have n1_ := Aside0.mk (KeepBut.trans (by repeat (first | (with_reducible first | exact HK.out | apply KeepBut.set_ | apply keep_drewN | apply keep_drew | apply keep_alloc) | exact HK.out)) hk (.inl rfl)); have n2_ := Aside0.mk (hb); have n3_ := Aside0.mk (hi); clear HK; clear HB; clear HI0; have HO194 := n0_; have HK := n1_; have HB := n2_; have HI0 := n3_; clear n0_ n1_ n2_ n3_; (try clear hb); (try clear hb2); (try clear hk); (try clear hi); (try clear ho0)) | ((with_reducible refine gate_callee (f := 45) rfl ?_); refine goesL_ (some 7) rfl rfl Try.func45 (by kernel_rfl) rfl #[.pointer (some ⟨g, 0, none⟩), .int .i64 20] rfl (by (try simp only [List.map_toArray, List.map_cons, List.map_nil]); first | done | rfl | (simp only [List.length_drop, List.length_take]; rfl)) ?_; (with_reducible refine (spec_l1Rd_pick.calls k g s0_0 t195 20 t196 t197 w0 _ ?side1 ?side2 A3.out).mono ?_); (case side1 => repeat (first | (with_reducible first | exact HI0.out | apply IsS102.alloc | apply IsS102.drewN | apply IsS102.drew | apply IsS102.set_1) | exact HI0.out)); (case side2 => repeat (first | (with_reducible first | exact HB.out | apply below_alloc | apply pw_below_drewN | apply below_drew1 | refine below_set ?_ (IsS102.ge HI0.out)) | exact HB.out)); rintro e w36 ⟨rfl, hi, hb, hk⟩; refine ⟨_, rfl, ?_⟩; have n0_ := Aside0.mk (Kd.R_mono (Kd.R_keep (IsS102.apart (show IsS102 w0 _ g s0_0 t195 from by repeat (first | (with_reducible first | exact HI0.out | apply IsS102.alloc | apply IsS102.drewN | apply IsS102.drew | apply IsS102.set_1) | exact HI0.out)) (by (with_reducible repeat (first | apply Kd.R_alloc | apply Kd.R_drewN | apply Kd.R_drew)); exact HO194.out) (by decide)) hk (fun _ h => h.2)) (fun _ h => h.1)); have n1_ := Aside0.mk (KeepBut.trans (by repeat (first | (with_reducible first | exact HK.out | apply KeepBut.set_ | apply keep_drewN | apply keep_drew | apply keep_alloc) | exact HK.out)) hk (.inl rfl)); have n2_ := Aside0.mk (hb); have n3_ := Aside0.mk (hi); clear HO194; clear HK; clear HB; clear HI0; have HO194 := n0_; have HK := n1_; have HB := n2_; have HI0 := n3_; clear n0_ n1_ n2_ n3_; (try clear hb); (try clear hb2); (try clear hk); (try clear hi)))
        go_ret
        exact ⟨_, by first | rfl | (simp [errW_none, errW_some] <;> rfl) | (simp [*, errW_none, errW_some] <;> rfl), by (with_reducible repeat (first | apply Kd.R_alloc | apply Kd.R_drewN | apply Kd.R_drew)); exact HO194.out, by repeat (first | (with_reducible first | exact HI0.out | apply IsS102.alloc | apply IsS102.drewN | apply IsS102.drew | apply IsS102.set_1) | exact HI0.out), by repeat (first | (with_reducible first | exact HB.out | apply below_alloc | apply pw_below_drewN | apply below_drew1 | refine below_set ?_ (IsS102.ge HI0.out)) | exact HB.out), by repeat (first | (with_reducible first | exact HK.out | apply KeepBut.set_ | apply keep_drewN | apply keep_drew | apply keep_alloc) | exact HK.out)⟩

/-! ### spec_DrawMatchesLet: function 26 -/
def spec_DrawMatchesLet.f (k : Nat) (l0 : List Int) : Option ((List (S48)) × (List (S52))) := (spec_l1Open.f l0).bind fun bt219 => ((spec_l13AnyMatches.f k bt219.1 bt219.2).bind fun bt222 => ((spec_l13AnyLabels.f k bt219.1 bt222.2).bind fun bt226 => (some (bt222.1, bt226.1))))
theorem spec_DrawMatchesLet.mono : ∀ a0 k, LeO (spec_DrawMatchesLet.f k a0) (spec_DrawMatchesLet.f (k + 1) a0) := by
  intro a0 k
  unfold spec_DrawMatchesLet.f
  repeat' first
      | (with_reducible exact spec_l13AnyLabels.mono _ _ _)
      | (with_reducible exact spec_l13AnyMatches.mono _ _ _)
      | (with_reducible exact LeO.refl _)
      | (with_reducible exact LeO.none _)
      | (with_reducible refine LeO.ite ?_ ?_)
      | (with_reducible refine LeO.bind ?_ (fun _ => ?_))
      | exact spec_l13AnyLabels.mono _ _ _
      | exact spec_l13AnyMatches.mono _ _ _
      | exact LeO.none _
      | refine LeO.ite ?_ ?_
      | refine LeO.bind ?_ (fun _ => ?_)
set_option maxHeartbeats 8000000 in
set_option maxRecDepth 100000 in
theorem spec_DrawMatchesLet.calls (k : Nat) (A0 : Option Addr) (c0 : Nat) (l0 : List Int) (r1 : List (S48)) (r2 : List (S52)) (w : World) (hr0 : Kd.C (Kd.int .u8) w A0 l0.length l0) (hc0 : l0.length ≤ c0) (h : spec_DrawMatchesLet.f k l0 = some (r1, r2)) :
    Calls Try.prog 26 #[.slice A0 l0.length c0] w fun e w' => ∃ v0_ v1_ : Value, e = .returned (.tuple #[v0_, v1_]) ∧ Kd.R k48 48 w' w.heap.size (fun _ => True) v0_ r1 ∧ Kd.R k52 52 w' w.heap.size (fun _ => True) v1_ r2 ∧ Below w.heap.size w w' := by
  have HR0 := Aside0.mk hr0
  have HC0 := Aside0.mk hc0
  clear hr0 hc0
  have HB := Aside0.mk (Below.refl w.heap.size w)
  have H : ((spec_l1Open.f l0).bind fun bt219 => ((spec_l13AnyMatches.f k bt219.1 bt219.2).bind fun bt222 => ((spec_l13AnyLabels.f k bt219.1 bt222.2).bind fun bt226 => (some (bt222.1, bt226.1))))) = some (r1, r2) := h
  clear h
  replace H := Option.bind_eq_some_iff.mp H
  obtain ⟨⟨t219, t220⟩, A20, H⟩ := H
  replace H : ((spec_l13AnyMatches.f k t219 t220).bind fun bt222 => ((spec_l13AnyLabels.f k t219 bt222.2).bind fun bt226 => (some (bt222.1, bt226.1)))) = some (r1, r2) := H
  have A2 := Aside0.mk A20
  clear A20
  replace H := Option.bind_eq_some_iff.mp H
  obtain ⟨⟨t222, t225⟩, A30, H⟩ := H
  replace H : ((spec_l13AnyLabels.f k t219 t225).bind fun bt226 => (some (t222, bt226.1))) = some (r1, r2) := H
  have A3 := Aside0.mk A30
  clear A30
  replace H := Option.bind_eq_some_iff.mp H
  obtain ⟨⟨t226, t229⟩, A40, H⟩ := H
  replace H : (some (t222, t226)) = some (r1, r2) := H
  have A4 := Aside0.mk A40
  clear A40
  simp only [Option.some.injEq, Prod.mk.injEq] at H
  obtain ⟨rfl, rfl⟩ := H
  go_enter Try.func26, Try.ntmps26
  go_wp2_with (first | ((with_reducible refine gate_callee (f := 43) rfl ?_); refine goesL_ (some 6) rfl rfl Try.func43 (by kernel_rfl) rfl #[.slice A0 l0.length c0] rfl (by (try simp only [List.map_toArray, List.map_cons, List.map_nil]); first | done | rfl | (simp only [List.length_drop, List.length_take]; rfl)) ?_; (with_reducible refine (spec_l1Open.calls _ _ l0 t219 t220 w _ ?side1 ?side2 ?side3 A2.out).mono ?_); (case side1 => repeat (first | (with_reducible first | exact HB.out | apply below_alloc | apply pw_below_drewN | apply below_drew1) | exact HB.out)); (case side2 => exact HR0.out); (case side3 => exact HC0.out); rintro e w5 ⟨g221, rfl, hi, hb, hb2⟩; refine ⟨_, rfl, ?_⟩; have n0_ := Aside0.mk (hb); have n1_ := Aside0.mk (hi); clear HB; have HB := n0_; have HI221 := n1_; clear n0_ n1_; (try clear hb); (try clear hb2); (try clear hk); (try clear hi)) | ((with_reducible refine gate_callee (f := 54) rfl ?_); refine goesL_ (some 8) rfl rfl Try.func54 (by kernel_rfl) rfl #[.pointer (some ⟨g221, 0, none⟩)] rfl (by (try simp only [List.map_toArray, List.map_cons, List.map_nil]); first | done | rfl | (simp only [List.length_drop, List.length_take]; rfl)) ?_; (with_reducible refine (spec_l13AnyMatches.calls k g221 t219 t220 t222 t225 w _ ?side1 ?side2 A3.out).mono ?_); (case side1 => repeat (first | (with_reducible first | exact HI221.out | apply IsS102.alloc | apply IsS102.drewN | apply IsS102.drew | apply IsS102.set_1) | exact HI221.out)); (case side2 => repeat (first | (with_reducible first | exact HB.out | apply below_alloc | apply pw_below_drewN | apply below_drew1 | refine below_set ?_ (IsS102.ge HI221.out)) | exact HB.out)); rintro e w6 ⟨v223, rfl, ho0, hi, hb, hk⟩; refine ⟨_, rfl, ?_⟩; have n0_ := Aside0.mk (Kd.R_lower ho0 (below_size (by repeat (first | (with_reducible first | exact HB.out | apply below_alloc | apply pw_below_drewN | apply below_drew1 | refine below_set ?_ (IsS102.ge HI221.out)) | exact HB.out)))); have n1_ := Aside0.mk (hb); have n2_ := Aside0.mk (hi); clear HB; clear HI221; have HO224 := n0_; have HB := n1_; have HI221 := n2_; clear n0_ n1_ n2_; (try clear hb); (try clear hb2); (try clear hk); (try clear hi); (try clear ho0)) | ((with_reducible refine gate_callee (f := 44) rfl ?_); refine goesL_ (some 10) rfl rfl Try.func44 (by kernel_rfl) rfl #[.pointer (some ⟨g221, 0, none⟩)] rfl (by (try simp only [List.map_toArray, List.map_cons, List.map_nil]); first | done | rfl | (simp only [List.length_drop, List.length_take]; rfl)) ?_; (with_reducible refine (spec_l13AnyLabels.calls k g221 t219 t225 t226 t229 w _ ?side1 ?side2 A4.out).mono ?_); (case side1 => repeat (first | (with_reducible first | exact HI221.out | apply IsS102.alloc | apply IsS102.drewN | apply IsS102.drew | apply IsS102.set_1) | exact HI221.out)); (case side2 => repeat (first | (with_reducible first | exact HB.out | apply below_alloc | apply pw_below_drewN | apply below_drew1 | refine below_set ?_ (IsS102.ge HI221.out)) | exact HB.out)); rintro e w7 ⟨v227, rfl, ho0, hi, hb, hk⟩; refine ⟨_, rfl, ?_⟩; have n0_ := Aside0.mk (Kd.R_mono (Kd.R_keep (IsS102.apart (show IsS102 w _ g221 t219 t225 from by repeat (first | (with_reducible first | exact HI221.out | apply IsS102.alloc | apply IsS102.drewN | apply IsS102.drew | apply IsS102.set_1) | exact HI221.out)) (by (with_reducible repeat (first | apply Kd.R_alloc | apply Kd.R_drewN | apply Kd.R_drew)); exact HO224.out) (by decide)) hk (fun _ h => h.2)) (fun _ h => h.1)); have n1_ := Aside0.mk (Kd.R_lower ho0 (below_size (by repeat (first | (with_reducible first | exact HB.out | apply below_alloc | apply pw_below_drewN | apply below_drew1 | refine below_set ?_ (IsS102.ge HI221.out)) | exact HB.out)))); have n2_ := Aside0.mk (hb); have n3_ := Aside0.mk (hi); clear HO224; clear HB; clear HI221; have HO224 := n0_; have HO228 := n1_; have HB := n2_; have HI221 := n3_; clear n0_ n1_ n2_ n3_; (try clear hb); (try clear hb2); (try clear hk); (try clear hi); (try clear ho0)))
  go_ret2
  exact ⟨_, _, by first | rfl | (simp [errW_none, errW_some] <;> rfl) | (simp [*, errW_none, errW_some] <;> rfl), by (with_reducible repeat (first | apply Kd.R_alloc | apply Kd.R_drewN | apply Kd.R_drew)); exact HO224.out, by (with_reducible repeat (first | apply Kd.R_alloc | apply Kd.R_drewN | apply Kd.R_drew)); exact HO228.out, by repeat (first | (with_reducible first | exact HB.out | apply below_alloc | apply pw_below_drewN | apply below_drew1 | refine below_set ?_ (IsS102.ge HI221.out)) | exact HB.out)⟩

/-! ### impl_isLetters: function 88 -/
def impl_isLetters.f (a0 : ByteArray) (a1 : Int) : Option Bool := if a0.size < 9223372036854775807 then some (lettersB a0 a1) else none
set_option maxHeartbeats 1000000 in
set_option maxRecDepth 100000 in
theorem impl_isLetters.calls (a0 : ByteArray) (a1 : Int) (r : Bool) (w : World) (h : impl_isLetters.f a0 a1 = some r) :
    Calls Try.prog 88 #[.string a0, .int .i64 a1] w fun e w' => e = .returned (.bool r) ∧ Drawn0 w w' := by
  unfold impl_isLetters.f at h
  split at h
  case isFalse => cases h
  case isTrue hs =>
  have hr := Aside0.mk (Option.some.inj h).symm
  clear h
  go_enter Try.func88, Try.ntmps88
  go_wp2
  go_loop [8] (fun v => ∃ k : Nat, k ≤ a0.size ∧ v = .int .i64 k ∧ Aside0 ((a0.data.toList.take k).all isL = true)) (fun v => a0.size - (intOf v).toNat)
  case atStart => exact ⟨0, Nat.zero_le _, rfl, ⟨rfl⟩⟩
  case round =>
    obtain ⟨k, hk, rfl, HA⟩ := hrel
    have e : (k : Int).toNat = k := by omega
    by_cases hlt : k < a0.size
    · have c0 : decide ((k : Int) < (a0.size : Int)) = true := decide_eq_true (by omega)
      have p : (0 ≤ (k : Int)) = True := eq_true (by omega)
      have q : ((k : Int) < (a0.size : Int)) = True := eq_true (by omega)
      have hx : ∀ h : k < a0.size, ((a0[k]'h).toNat : Int) = bt a0 (k : Int) := fun h => (letters_bt a0 k h).symm
      have hn := fun hb => letters_no a0 k hlt hb a1
      have hy := fun hb => letters_step a0 k hlt HA.out hb
      have Hn := Aside0.mk hn
      have Hy := Aside0.mk hy
      clear hn hy e
      by_cases c1 : bt a0 (k : Int) < 97
      · have c1b : decide (bt a0 (k : Int) < 97) = true := decide_eq_true c1
        have C1 := Aside0.mk c1
        clear c1
        go_wp2
        go_ret
        exact ⟨by rw [hr.out, Hn.out (by have := C1.out; omega)]; rfl, Drawn0.refl _⟩
      · have c1b : decide (bt a0 (k : Int) < 97) = false := decide_eq_false c1
        have C1 := Aside0.mk c1
        clear c1
        by_cases c2 : 122 < bt a0 (k : Int)
        · have c2b : decide (122 < bt a0 (k : Int)) = true := decide_eq_true c2
          have C2 := Aside0.mk c2
          clear c2
          go_wp2
          go_ret
          exact ⟨by rw [hr.out, Hn.out (by have := C2.out; omega)]; rfl, Drawn0.refl _⟩
        · have c2b : decide (122 < bt a0 (k : Int)) = false := decide_eq_false c2
          have C2 := Aside0.mk c2
          clear c2
          go_wp2
          go_round
          case rel => exact ⟨k + 1, by omega, by go_num, ⟨Hy.out (by have := C1.out; have := C2.out; omega)⟩⟩
          case measure => simp [intOf]; omega
    · have c0 : decide ((k : Int) < (a0.size : Int)) = false := decide_eq_false (by omega)
      have hk' : k = a0.size := by omega
      have HE := Aside0.mk (letters_end a0 (by rw [← hk']; exact HA.out) a1)
      clear hk' e
      go_wp2
      go_ret
      exact ⟨by rw [hr.out, HE.out]; rfl, Drawn0.refl _⟩

/-! ### impl_isName: function 63 -/
def impl_isName.f (a0 : ByteArray) : Option Bool := if a0.size < 9223372036854775807 then some (lettersB a0 6 && (a0.toList != [])) else none
set_option maxHeartbeats 1000000 in
set_option maxRecDepth 100000 in
theorem impl_isName.calls (a0 : ByteArray) (r : Bool) (w : World) (h : impl_isName.f a0 = some r) :
    Calls Try.prog 63 #[.string a0] w fun e w' => e = .returned (.bool r) ∧ Drawn0 w w' := by
  unfold impl_isName.f at h
  split at h
  case isFalse => cases h
  case isTrue hs =>
  have hr := Aside0.mk (Option.some.inj h).symm
  clear h
  have hc : ∀ w, Calls Try.prog 88 #[.string a0, .int .i64 6] w fun e w' => e = .returned (.bool (lettersB a0 6)) ∧ Drawn0 w w' := fun w => impl_isLetters.calls a0 6 _ w (by unfold impl_isLetters.f; rw [if_pos hs])
  have HC := Aside0.mk hc
  clear hc
  by_cases c : a0.toList = ([] : List UInt8)
  · have ca : (a0.toList != ([] : List UInt8)) = false := bne_eq_false_iff_eq.mpr c
    have cb : (a0.toList == ([] : List UInt8)) = true := beq_iff_eq.mpr c
    have C := Aside0.mk ca
    clear c
    go_enter Try.func63, Try.ntmps63
    go_wp2_with (go_at_call 88; refine (HC.out _).mono ?_; rintro e w' ⟨rfl, ⟨nd, rfl⟩⟩)
    go_ret
    exact ⟨by rw [hr.out, C.out, Bool.and_false]; rfl, Drawn0.refl _⟩
  · have ca : (a0.toList != ([] : List UInt8)) = true := bne_iff_ne.mpr c
    have cb : (a0.toList == ([] : List UInt8)) = false := beq_eq_false_iff_ne.mpr c
    have C := Aside0.mk ca
    clear c
    go_enter Try.func63, Try.ntmps63
    go_wp2_with (go_at_call 88; refine (HC.out _).mono ?_; rintro e w' ⟨rfl, ⟨nd, rfl⟩⟩)
    go_ret
    exact ⟨by rw [hr.out, C.out, Bool.and_true]; rfl, ⟨⟨_, rfl⟩⟩⟩

/-! ### impl_isWord: function 64 -/
def impl_isWord.f (a0 : ByteArray) : Option Bool := if a0.size < 9223372036854775807 then some (lettersB a0 8) else none
set_option maxHeartbeats 1000000 in
set_option maxRecDepth 100000 in
theorem impl_isWord.calls (a0 : ByteArray) (r : Bool) (w : World) (h : impl_isWord.f a0 = some r) :
    Calls Try.prog 64 #[.string a0] w fun e w' => e = .returned (.bool r) ∧ Drawn0 w w' := by
  unfold impl_isWord.f at h
  split at h
  case isFalse => cases h
  case isTrue hs =>
  have hr := Aside0.mk (Option.some.inj h).symm
  clear h
  have hc : ∀ w, Calls Try.prog 88 #[.string a0, .int .i64 8] w fun e w' => e = .returned (.bool (lettersB a0 8)) ∧ Drawn0 w w' := fun w => impl_isLetters.calls a0 8 _ w (by unfold impl_isLetters.f; rw [if_pos hs])
  have HC := Aside0.mk hc
  clear hc
  go_enter Try.func64, Try.ntmps64
  go_wp2_with (go_at_call 88; refine (HC.out _).mono ?_; rintro e w' ⟨rfl, ⟨nd, rfl⟩⟩)
  go_ret
  exact ⟨by rw [hr.out]; rfl, ⟨⟨_, rfl⟩⟩⟩

/-! ### impl_LabelsOk: function 38 -/
def impl_LabelsOk.f (l0 : List Lbl) : Option Bool := if bdL l0 = true then some (labelsB l0) else none
set_option maxHeartbeats 4000000 in
set_option maxRecDepth 100000 in
theorem impl_LabelsOk.calls (A0 : Option Addr) (c0 : Nat) (l0 : List Lbl) (r : Bool) (w : World) (hr0 : Kd.C k52 w A0 l0.length l0) (hc0 : l0.length ≤ c0) (h : impl_LabelsOk.f l0 = some r) :
    Calls Try.prog 38 #[.slice A0 l0.length c0] w fun e w' => e = .returned (.bool r) ∧ Below w.heap.size w w' := by
  unfold impl_LabelsOk.f at h
  split at h
  case isFalse => cases h
  case isTrue hs =>
  have hr := Aside0.mk (Option.some.inj h).symm
  clear h
  have hu := Try.underlying52
  have HR0 := Aside0.mk hr0
  have HC0 := Aside0.mk hc0
  have HS := Aside0.mk hs
  have hN := bdL_len hs
  clear hr0 hc0 hs
  go_enter Try.func38, Try.ntmps38
  go_wp2
  go_loopw [7] (fun v wr => ∃ k : Nat, k ≤ l0.length ∧ v = .int .i64 k ∧ Aside0 (r = (chainP lblR lblLt (prevG l0 z52 k) (l0.drop k) && decide (1 ≤ l0.length ∧ l0.length ≤ 4))) ∧ Aside0 (Below w.heap.size w wr)) (fun v _ => l0.length - (intOf v).toNat)
  case atStart => exact ⟨0, Nat.zero_le _, rfl, ⟨hr.out⟩, ⟨Below.refl _ _⟩⟩
  case round =>
    obtain ⟨k, hk, rfl, HA, HD⟩ := hrel
    by_cases hlt : k < l0.length
    · have c0b : decide ((k : Int) < (l0.length : Int)) = true := decide_eq_true (by omega)
      obtain ⟨ad, e, hx0, hx1⟩ := at_T52 HR0.out (k : Int) (by omega) (by omega)
      cases e
      have e1 : (k : Int).toNat = k := by omega
      have e2 : rd_T52 l0 (k : Int) = l0.getD k z52 := by unfold rd_T52; rw [e1]
      rw [e1, e2] at hx0 hx1
      replace hx0 := (HD.out.cell (World.block_lt_of_cell? w _ hx0)).trans hx0
      replace hx1 := (HD.out.cell (World.block_lt_of_cell? w _ hx1)).trans hx1
      have hmem : l0.getD k z52 ∈ l0 := by rw [getD_at hlt]; exact List.getElem_mem _
      have hb := bdL_at HS.out hmem
      have N1 := Aside0.mk (chainP_no1 lblR lblLt l0 z52 k hlt)
      have N2 := Aside0.mk (chainP_no2 lblR lblLt l0 z52 k hlt)
      have N3 := Aside0.mk (fun h0 : k = 0 => chainP_on0 lblR lblLt l0 z52 (by omega))
      have N4 := Aside0.mk (chainP_on lblR lblLt l0 z52 k hlt)
      clear e1 e2 hmem
      obtain ⟨x, hx⟩ : ∃ x, l0.getD k z52 = x := ⟨_, rfl⟩
      rw [hx] at hx0 hx1 hb N1 N2 N4
      have hR : lblR x = ((lettersB x.f0 6 && (x.f0.toList != [])) && lettersB x.f1 8 && (x.f1.toList != [])) := rfl
      have HX := Aside0.mk hx
      obtain ⟨nm, hnm⟩ : ∃ s, x.f0 = s := ⟨_, rfl⟩
      obtain ⟨wd, hwd⟩ : ∃ s, x.f1 = s := ⟨_, rfl⟩
      have HNM := Aside0.mk hnm
      rw [hnm, hwd] at hR hb
      rw [hnm] at hx0
      rw [hwd] at hx1
      have HRr := Aside0.mk hR
      clear hx hnm hwd hR
      have p : (0 ≤ (k : Int)) = True := eq_true (by omega)
      have q : ((k : Int) < (l0.length : Int)) = True := eq_true (by omega)
      have c1 : ∀ (b : Bool), (lettersB nm 6 && (nm.toList != [])) = b → ∀ w, Calls Try.prog 63 #[.string nm] w fun e w' => e = .returned (.bool b) ∧ Drawn0 w w' := fun b hb' w => impl_isName.calls nm b w (by unfold impl_isName.f; rw [if_pos hb.1, hb'])
      have c2 : ∀ (b : Bool), lettersB wd 8 = b → ∀ w, Calls Try.prog 64 #[.string wd] w fun e w' => e = .returned (.bool b) ∧ Drawn0 w w' := fun b hb' w => impl_isWord.calls wd b w (by unfold impl_isWord.f; rw [if_pos hb.2, hb'])
      clear hb
      cases b1 : (lettersB nm 6 && (nm.toList != []))
      · have C1 := Aside0.mk (c1 false b1)
        have B1 := Aside0.mk b1
        clear c1 c2 b1
        go_wp2_with fail
        go_quiet ((go_at_call 63; exact quiet_D (C1.out _)))
        go_wp2
        go_ret
        exact ⟨by rw [HA.out, N1.out (by rw [HRr.out, B1.out]; rfl)]; rfl, pw_below_drewN (HD.out.alloc (by first | exact HD.out.size | exact Nat.le_refl _) _) _⟩
      have C1 := Aside0.mk (c1 true b1)
      have B1 := Aside0.mk b1
      clear c1 b1
      cases b2 : lettersB wd 8
      · have C2 := Aside0.mk (c2 false b2)
        have B2 := Aside0.mk b2
        clear c2 b2
        go_wp2_with fail
        go_quiet ((first | (go_at_call 63; exact quiet_D (C1.out _)) | (go_at_call 64; exact quiet_D (C2.out _))))
        go_wp2
        go_ret
        exact ⟨by rw [HA.out, N1.out (by rw [HRr.out, B1.out, B2.out]; rfl)]; rfl, pw_below_drewN (HD.out.alloc (by first | exact HD.out.size | exact Nat.le_refl _) _) _⟩
      have C2 := Aside0.mk (c2 true b2)
      have B2 := Aside0.mk b2
      clear c2 b2
      by_cases b3 : wd.toList = ([] : List UInt8)
      · have b3a : (wd.toList == ([] : List UInt8)) = true := beq_iff_eq.mpr b3
        have B3 := Aside0.mk b3
        clear b3
        go_wp2_with fail
        go_quiet ((first | (go_at_call 63; exact quiet_D (C1.out _)) | (go_at_call 64; exact quiet_D (C2.out _))))
        go_wp2
        go_ret
        exact ⟨by rw [HA.out, N1.out (by rw [HRr.out, B1.out, B2.out, B3.out]; rfl)]; rfl, pw_below_drewN (HD.out.alloc (by first | exact HD.out.size | exact Nat.le_refl _) _) _⟩
      have b3a : (wd.toList == ([] : List UInt8)) = false := beq_eq_false_iff_ne.mpr b3
      have BR := Aside0.mk (show lblR x = true by rw [HRr.out, B1.out, B2.out]; simpa using b3)
      clear b3
      by_cases b4 : k = 0
      · have b4a : decide (0 < (k : Int)) = false := decide_eq_false (by omega)
        have b4n : decide (0 < k) = false := decide_eq_false (by omega)
        have B4 := Aside0.mk b4
        clear b4
        go_wp2_with fail
        go_quiet ((first | (go_at_call 63; exact quiet_D (C1.out _)) | (go_at_call 64; exact quiet_D (C2.out _))))
        go_wp2
        go_roundw
        case rel => exact ⟨k + 1, by omega, by go_num, ⟨by have e := N3.out B4.out (by rw [← B4.out, HX.out]; exact BR.out); rw [HA.out]; rw [B4.out]; rw [e]⟩, ⟨pw_below_drewN (HD.out.alloc (by first | exact HD.out.size | exact Nat.le_refl _) _) _⟩⟩
        case measure => simp [intOf]; omega
      obtain ⟨j, hj⟩ : ∃ j : Nat, k = j + 1 := ⟨k - 1, by omega⟩
      have b4a : decide (0 < (k : Int)) = true := decide_eq_true (by omega)
      have b4n : decide (0 < k) = true := decide_eq_true (by omega)
      have jw : IntKind.i64.wrap ((k : Int) - 1) = (j : Int) := by rw [IntWalk.i64_in _ (by omega)]; omega
      have p2 : (0 ≤ (j : Int)) = True := eq_true (by omega)
      have q2 : ((j : Int) < (l0.length : Int)) = True := eq_true (by omega)
      obtain ⟨ad2, e, hy0, hy1⟩ := at_T52 HR0.out (j : Int) (by omega) (by omega)
      obtain rfl : ad = ad2 := by injection e
      have e1 : (j : Int).toNat = j := by omega
      have e2 : rd_T52 l0 (j : Int) = l0.getD (k - 1) z52 := by unfold rd_T52; rw [e1, hj]; rfl
      rw [e1, e2] at hy0
      replace hy0 := (HD.out.cell (World.block_lt_of_cell? w _ hy0)).trans hy0
      clear e e1 e2 hy1 b4
      obtain ⟨y, hy⟩ : ∃ y, l0.getD (k - 1) z52 = y := ⟨_, rfl⟩
      rw [hy] at hy0 N2 N4
      have HY := Aside0.mk hy
      obtain ⟨pn, hpn⟩ : ∃ s, y.f0 = s := ⟨_, rfl⟩
      have HPN := Aside0.mk hpn
      rw [hpn] at hy0
      have hya : ∀ o, (wr.alloc o).cell? (ad.add (j * 2)) = some (.string pn) := fun o => (Below.cell ((Below.refl _ wr).alloc (Nat.le_refl _) o) (World.block_lt_of_cell? wr _ hy0)).trans hy0
      have HJ := Aside0.mk hj
      clear hy hpn hj
      have hl : lblLt y x = Op.bytesLess pn.toList nm.toList := by unfold lblLt; rw [HPN.out, HNM.out]
      have HL := Aside0.mk hl
      clear hl
      cases b5 : Op.bytesLess pn.toList nm.toList
      · have B5 := Aside0.mk b5
        go_wp2_with fail
        go_quiet ((first | (go_at_call 63; exact quiet_D (C1.out _)) | (go_at_call 64; exact quiet_D (C2.out _))))
        go_wp2
        go_ret
        exact ⟨by rw [HA.out, N2.out (by have := HJ.out; omega) (HL.out.trans B5.out)]; rfl, pw_below_drewN (HD.out.alloc (by first | exact HD.out.size | exact Nat.le_refl _) _) _⟩
      · have B5 := Aside0.mk b5
        go_wp2_with fail
        go_quiet ((first | (go_at_call 63; exact quiet_D (C1.out _)) | (go_at_call 64; exact quiet_D (C2.out _))))
        go_wp2
        go_roundw
        case rel => exact ⟨k + 1, by omega, by go_num, ⟨by rw [HA.out, N4.out (by have := HJ.out; omega) BR.out (HL.out.trans B5.out)]⟩, ⟨pw_below_drewN (HD.out.alloc (by first | exact HD.out.size | exact Nat.le_refl _) _) _⟩⟩
        case measure => simp [intOf]; omega
    · have c0b : decide ((k : Int) < (l0.length : Int)) = false := decide_eq_false (by omega)
      have HE := Aside0.mk (chainP_end lblR lblLt l0 (prevG l0 z52 k) k (by omega))
      by_cases c1 : 1 ≤ l0.length
      · have c1a : decide (1 ≤ (l0.length : Int)) = true := decide_eq_true (by omega)
        by_cases c2 : l0.length ≤ 4
        · have c2a : decide ((l0.length : Int) ≤ 4) = true := decide_eq_true (by omega)
          have C := Aside0.mk (decide_eq_true (show 1 ≤ l0.length ∧ l0.length ≤ 4 from ⟨c1, c2⟩))
          clear c1 c2
          go_wp2
          repeat (go_quiet (fail); try go_wp2)
          go_ret
          exact ⟨by rw [HA.out, HE.out, C.out]; rfl, HD.out⟩
        · have c2a : decide ((l0.length : Int) ≤ 4) = false := decide_eq_false (by omega)
          have C := Aside0.mk (decide_eq_false (show ¬ (1 ≤ l0.length ∧ l0.length ≤ 4) from fun h => c2 h.2))
          clear c1 c2
          go_wp2
          repeat (go_quiet (fail); try go_wp2)
          go_ret
          exact ⟨by rw [HA.out, HE.out, C.out]; rfl, HD.out⟩
      · have c1a : decide (1 ≤ (l0.length : Int)) = false := decide_eq_false (by omega)
        have C := Aside0.mk (decide_eq_false (show ¬ (1 ≤ l0.length ∧ l0.length ≤ 4) from fun h => c1 h.1))
        clear c1
        go_wp2
        repeat (go_quiet (fail); try go_wp2)
        go_ret
        exact ⟨by rw [HA.out, HE.out, C.out]; rfl, HD.out⟩

/-! ### impl_Match: function 74 -/
set_option maxHeartbeats 2000000 in
set_option maxRecDepth 100000 in
theorem indexMatch.calls (g : Nat) (cap : Array Value) (fn : Func) (hf : Try.prog.funcs[g]? = some fn) (hname : (fn.name == "runtime.NumGoroutine") = false) (hbody : fn.body.isSome = true) (P : Mch → Bool)
    (A0 : Option Addr) (c0 : Nat) (l0 : List Mch) (w : World) (hg : ∀ x ∈ l0, ∀ (W : World), Below w.heap.size w W → Calls Try.prog g (#[mchA x] ++ cap) W fun e w' => e = .returned (.bool (P x)) ∧ Below W.heap.size W w')
    (hr0 : Kd.C k48 w A0 l0.length l0) (hc0 : l0.length ≤ c0) (hN : l0.length < 9223372036854775807) :
    Calls Try.prog 93 #[.slice A0 l0.length c0, .func (.func g) #[] cap] w fun e w' => (∃ j : Int, e = .returned (.int .i64 j) ∧ decide (0 ≤ j) = l0.any P) ∧ Below w.heap.size w w' := by
  obtain ⟨r, hr⟩ : ∃ r, l0.any P = r := ⟨_, rfl⟩
  rw [hr]
  have HR := Aside0.mk hr
  have HG := Aside0.mk hg
  have HF := Aside0.mk hf
  have HNM := Aside0.mk hname
  have HY := Aside0.mk hbody
  have HR0 := Aside0.mk hr0
  have hu := Try.underlying48
  clear hr hg hf hname hbody hr0 hc0
  go_enter Try.func93, Try.ntmps93
  go_wp2
  go_loopw [8] (fun v wr => ∃ k : Nat, k ≤ l0.length ∧ v = .int .i64 k ∧ Aside0 (r = (l0.drop k).any P) ∧ Aside0 (Below w.heap.size w wr)) (fun v _ => l0.length - (intOf v).toNat)
  case atStart => exact ⟨0, Nat.zero_le _, rfl, ⟨by rw [List.drop_zero]; exact HR.out.symm⟩, ⟨Below.refl _ _⟩⟩
  case round =>
    clear HR
    obtain ⟨k, hk, rfl, HA, HD⟩ := hrel
    by_cases hlt : k < l0.length
    · have c0b : decide ((k : Int) < (l0.length : Int)) = true := decide_eq_true (by omega)
      obtain ⟨ad, e, hx0, hx1, hx2⟩ := at_T48 HR0.out (k : Int) (by omega) (by omega)
      cases e
      have e1 : (k : Int).toNat = k := by omega
      have e2 : rd_T48 l0 (k : Int) = l0.getD k z48 := by unfold rd_T48; rw [e1]
      rw [e1, e2] at hx0 hx1 hx2
      replace hx0 := (HD.out.cell (World.block_lt_of_cell? w _ hx0)).trans hx0
      replace hx1 := (HD.out.cell (World.block_lt_of_cell? w _ hx1)).trans hx1
      replace hx2 := (HD.out.cell (World.block_lt_of_cell? w _ hx2)).trans hx2
      have hmem : l0.getD k z48 ∈ l0 := by simp [List.getD, hlt]
      have E := Aside0.mk (any_step P l0 z48 k hlt)
      have HM := Aside0.mk hmem
      clear e1 e2 hmem
      obtain ⟨x, hx⟩ : ∃ x, l0.getD k z48 = x := ⟨_, rfl⟩
      rw [hx] at hx0 hx1 hx2 E HM
      clear hx
      have p : (0 ≤ (k : Int)) = True := eq_true (by omega)
      have q : ((k : Int) < (l0.length : Int)) = True := eq_true (by omega)
      cases hP : P x
      · have HP := Aside0.mk hP
        clear hP
        go_wp2_with (refine goesV_ (some 16) rfl rfl rfl rfl HF.out HNM.out HY.out (#[mchA x] ++ cap) (by simp only [List.map_toArray, List.map_cons, List.map_nil]; rfl) ?_; refine (HG.out x HM.out _ HD.out).mono ?_; rintro e w' ⟨rfl, hb⟩; rw [HP.out]; refine ⟨_, rfl, ?_⟩; have HB := Aside0.mk hb; clear hb)
        go_roundw
        case rel => exact ⟨k + 1, by omega, by go_num, ⟨by rw [HA.out, E.out, HP.out]; rfl⟩, ⟨below_step HD.out HB.out⟩⟩
        case measure => simp [intOf]; omega
      · have HP := Aside0.mk hP
        clear hP
        go_wp2_with (refine goesV_ (some 16) rfl rfl rfl rfl HF.out HNM.out HY.out (#[mchA x] ++ cap) (by simp only [List.map_toArray, List.map_cons, List.map_nil]; rfl) ?_; refine (HG.out x HM.out _ HD.out).mono ?_; rintro e w' ⟨rfl, hb⟩; rw [HP.out]; refine ⟨_, rfl, ?_⟩; have HB := Aside0.mk hb; clear hb)
        go_ret
        exact ⟨⟨_, rfl, by rw [HA.out, E.out, HP.out]; simp⟩, below_step HD.out HB.out⟩
    · have c0b : decide ((k : Int) < (l0.length : Int)) = false := decide_eq_false (by omega)
      have E := Aside0.mk (show (l0.drop k).any P = false by rw [List.drop_eq_nil_of_le (by omega)]; rfl)
      go_wp2
      go_ret
      exact ⟨⟨_, rfl, by rw [HA.out, E.out]; rfl⟩, HD.out⟩
set_option maxHeartbeats 2000000 in
set_option maxRecDepth 100000 in
theorem containsMatch.calls (g : Nat) (cap : Array Value) (fn : Func) (hf : Try.prog.funcs[g]? = some fn) (hname : (fn.name == "runtime.NumGoroutine") = false) (hbody : fn.body.isSome = true) (P : Mch → Bool)
    (A0 : Option Addr) (c0 : Nat) (l0 : List Mch) (w : World) (hg : ∀ x ∈ l0, ∀ (W : World), Below w.heap.size w W → Calls Try.prog g (#[mchA x] ++ cap) W fun e w' => e = .returned (.bool (P x)) ∧ Below W.heap.size W w')
    (hr0 : Kd.C k48 w A0 l0.length l0) (hc0 : l0.length ≤ c0) (hN : l0.length < 9223372036854775807) :
    Calls Try.prog 74 #[.slice A0 l0.length c0, .func (.func g) #[] cap] w fun e w' => e = .returned (.bool (l0.any P)) ∧ Below w.heap.size w w' := by
  have C := Aside0.mk (indexMatch.calls g cap fn hf hname hbody P A0 c0 l0 w hg hr0 hc0 hN)
  clear hg hf hname hbody hr0
  obtain ⟨r, hr⟩ : ∃ r, l0.any P = r := ⟨_, rfl⟩
  obtain ⟨n0, hn0⟩ : ∃ n, l0.length = n := ⟨_, rfl⟩
  rw [hr, hn0] at C
  rw [hr, hn0]
  clear hr hn0 hc0 hN
  go_enter Try.func74, Try.ntmps74
  go_wp2_with (refine goesL_ (some 7) rfl rfl Try.func93 (by kernel_rfl) rfl #[.slice A0 n0 c0, .func (.func g) #[] cap] rfl (by simp only [List.map_toArray, List.map_cons, List.map_nil]; rfl) ?_; refine C.out.mono ?_; rintro e w' ⟨⟨j, rfl, hj⟩, hb⟩; refine ⟨_, rfl, ?_⟩)
  go_ret
  exact ⟨rfl, hb⟩

/-! ### impl_lettingOf: function 76 -/
def impl_lettingOf.f : Unit := ()
set_option maxHeartbeats 2000000 in
set_option maxRecDepth 100000 in
theorem impl_lettingOf.calls (a : Int) (b c : ByteArray) (w : World) : Calls Try.prog 76 #[.agg #[.int .i64 a, .string b, .string c]] w fun e w' => e = .returned (letV a c) ∧ Below w.heap.size w w' := by
  obtain ⟨v, hv⟩ : ∃ v, letV a c = v := ⟨_, rfl⟩
  rw [hv]
  have HV := Aside0.mk hv
  clear hv
  have hu := Try.underlying48
  by_cases h1 : a = 1
  · have c1 : (a == 1) = true := beq_iff_eq.mpr h1
    have E := Aside0.mk (show letV a c = .iface 125 (.agg #[.string c]) by unfold letV; rw [if_pos h1])
    clear h1
    go_enter Try.func76, Try.ntmps76
    go_wp2
    go_ret
    exact ⟨by rw [← HV.out, E.out]; rfl, (Below.refl _ _).alloc (Nat.le_refl _) _⟩
  have c1 : (a == 1) = false := beq_eq_false_iff_ne.mpr h1
  by_cases h2 : a = 2
  · have c2 : (a == 2) = true := beq_iff_eq.mpr h2
    have E := Aside0.mk (show letV a c = .iface 126 (.agg #[.string c]) by unfold letV; rw [if_neg h1, if_pos h2])
    clear h1 h2
    go_enter Try.func76, Try.ntmps76
    go_wp2
    go_ret
    exact ⟨by rw [← HV.out, E.out]; rfl, (Below.refl _ _).alloc (Nat.le_refl _) _⟩
  have c2 : (a == 2) = false := beq_eq_false_iff_ne.mpr h2
  by_cases h3 : a = 3
  · have c3 : (a == 3) = true := beq_iff_eq.mpr h3
    have E := Aside0.mk (show letV a c = .iface 127 (.agg #[.string c]) by unfold letV; rw [if_neg h1, if_neg h2, if_pos h3])
    clear h1 h2 h3
    go_enter Try.func76, Try.ntmps76
    go_wp2
    go_ret
    exact ⟨by rw [← HV.out, E.out]; rfl, (Below.refl _ _).alloc (Nat.le_refl _) _⟩
  have c3 : (a == 3) = false := beq_eq_false_iff_ne.mpr h3
  by_cases h4 : a = 4
  · have c4 : (a == 4) = true := beq_iff_eq.mpr h4
    have E := Aside0.mk (show letV a c = .iface 128 (.agg #[.string c]) by unfold letV; rw [if_neg h1, if_neg h2, if_neg h3, if_pos h4])
    clear h1 h2 h3 h4
    go_enter Try.func76, Try.ntmps76
    go_wp2
    go_ret
    exact ⟨by rw [← HV.out, E.out]; rfl, (Below.refl _ _).alloc (Nat.le_refl _) _⟩
  have c4 : (a == 4) = false := beq_eq_false_iff_ne.mpr h4
  have E := Aside0.mk (show letV a c = .nilIface by unfold letV; rw [if_neg h1, if_neg h2, if_neg h3, if_neg h4])
  clear h1 h2 h3 h4
  go_enter Try.func76, Try.ntmps76
  go_wp2
  go_ret
  exact ⟨by rw [← HV.out, E.out]; rfl, (Below.refl _ _).alloc (Nat.le_refl _) _⟩

/-! ### impl_MatchesOk: function 52 -/
theorem letV_some (k : Int) (c : ByteArray) (h : 1 ≤ k ∧ k ≤ 4) : ∃ t v, letV k c = .iface t v := by
  unfold letV
  by_cases h1 : k = 1
  · exact ⟨_, _, if_pos h1⟩
  rw [if_neg h1]
  by_cases h2 : k = 2
  · exact ⟨_, _, if_pos h2⟩
  rw [if_neg h2]
  by_cases h3 : k = 3
  · exact ⟨_, _, if_pos h3⟩
  rw [if_neg h3, if_pos (by omega)]
  exact ⟨_, _, rfl⟩
theorem letV_none (k : Int) (c : ByteArray) (h : ¬ (1 ≤ k ∧ k ≤ 4)) : letV k c = .nilIface := by
  unfold letV
  rw [if_neg (by omega), if_neg (by omega), if_neg (by omega), if_neg (by omega)]
def impl_MatchesOk.f (l0 : List Mch) : Option Bool := if bdM l0 = true then some (mchsB l0) else none
set_option maxHeartbeats 2000000 in
set_option maxRecDepth 100000 in
theorem badMatch.calls (x : Mch) (h1 : x.f1.size < 9223372036854775807) (h2 : x.f2.size < 9223372036854775807) (w : World) : Calls Try.prog 75 #[mchA x] w fun e w' => e = .returned (.bool (!mchB x)) ∧ Below w.heap.size w w' := by
  obtain ⟨kd, nm, wd⟩ := x
  have hu := Try.underlying48
  have c1 : ∀ (b : Bool), (lettersB nm 6 && (nm.toList != [])) = b → ∀ w, Calls Try.prog 63 #[.string nm] w fun e w' => e = .returned (.bool b) ∧ Drawn0 w w' := fun b hb' w => impl_isName.calls nm b w (by unfold impl_isName.f; rw [if_pos h1, hb'])
  have c2 : ∀ (b : Bool), lettersB wd 8 = b → ∀ w, Calls Try.prog 64 #[.string wd] w fun e w' => e = .returned (.bool b) ∧ Drawn0 w w' := fun b hb' w => impl_isWord.calls wd b w (by unfold impl_isWord.f; rw [if_pos h2, hb'])
  have hm : mchB ⟨kd, nm, wd⟩ = ((decide (1 ≤ kd) && decide (kd ≤ 4)) && (lettersB nm 6 && (nm.toList != [])) && lettersB wd 8) := rfl
  rw [hm]
  show Calls Try.prog 75 #[.agg #[.int .i64 kd, .string nm, .string wd]] w _
  have hL : ∀ w, Calls Try.prog 76 #[.agg #[.int .i64 kd, .string nm, .string wd]] w fun e w' => e = .returned (letV kd wd) ∧ Below w.heap.size w w' := fun w => impl_lettingOf.calls kd nm wd w
  clear h1 h2 hm
  obtain ⟨r, hr⟩ : ∃ r, (!((decide (1 ≤ kd) && decide (kd ≤ 4)) && (lettersB nm 6 && (nm.toList != [])) && lettersB wd 8)) = r := ⟨_, rfl⟩
  rw [hr]
  have HR := Aside0.mk hr
  clear hr
  by_cases hk : 1 ≤ kd ∧ kd ≤ 4
  · have K1 := Aside0.mk (show (decide (1 ≤ kd) && decide (kd ≤ 4)) = true by rw [decide_eq_true hk.1, decide_eq_true hk.2]; rfl)
    obtain ⟨t, v, e⟩ := letV_some kd wd hk
    rw [e] at hL
    have CL := Aside0.mk hL
    clear hL e hk
    cases b1 : (lettersB nm 6 && (nm.toList != []))
    · have C1 := Aside0.mk (c1 false b1)
      have B1 := Aside0.mk b1
      clear c1 c2 b1
      go_enter Try.func75, Try.ntmps75
      go_wp2_with (first | (go_at_call 76; refine (CL.out _).mono ?_; rintro e w' ⟨rfl, hb⟩; have b_ := blk_below (blk_new w (Obj.cells #[.int .i64 kd, .string nm, .string wd] 48)) hb; have d1 : w'.cell? ⟨w.heap.size, 1, none⟩ = some (.string nm) := blk_cell b_ 1; have d2 : w'.cell? ⟨w.heap.size, 2, none⟩ = some (.string wd) := blk_cell b_ 2; have HB := Aside0.mk (below_step ((Below.refl _ w).alloc (Nat.le_refl _) _) hb); clear hb b_) | (go_at_call 63; refine (C1.out _).mono ?_; rintro e w'' ⟨rfl, ⟨nd, rfl⟩⟩))
      go_ret
      exact ⟨by rw [← HR.out, K1.out, B1.out]; rfl, by first | exact HB.out | exact pw_below_drewN HB.out _⟩
    · have C1 := Aside0.mk (c1 true b1)
      have B1 := Aside0.mk b1
      clear c1 b1
      cases b2 : lettersB wd 8
      · have C2 := Aside0.mk (c2 false b2)
        have B2 := Aside0.mk b2
        clear c2 b2
        go_enter Try.func75, Try.ntmps75
        go_wp2_with (first | (go_at_call 76; refine (CL.out _).mono ?_; rintro e w' ⟨rfl, hb⟩; have b_ := blk_below (blk_new w (Obj.cells #[.int .i64 kd, .string nm, .string wd] 48)) hb; have d1 : w'.cell? ⟨w.heap.size, 1, none⟩ = some (.string nm) := blk_cell b_ 1; have d2 : w'.cell? ⟨w.heap.size, 2, none⟩ = some (.string wd) := blk_cell b_ 2; have HB := Aside0.mk (below_step ((Below.refl _ w).alloc (Nat.le_refl _) _) hb); clear hb b_) | (go_at_call 63; refine (C1.out _).mono ?_; rintro e w'' ⟨rfl, ⟨nd, rfl⟩⟩) | (go_at_call 64; refine (C2.out _).mono ?_; rintro e w'' ⟨rfl, ⟨nd2, rfl⟩⟩))
        go_ret
        exact ⟨by rw [← HR.out, K1.out, B1.out, B2.out]; rfl, by first | exact HB.out | exact pw_below_drewN HB.out _⟩
      · have C2 := Aside0.mk (c2 true b2)
        have B2 := Aside0.mk b2
        clear c2 b2
        go_enter Try.func75, Try.ntmps75
        go_wp2_with (first | (go_at_call 76; refine (CL.out _).mono ?_; rintro e w' ⟨rfl, hb⟩; have b_ := blk_below (blk_new w (Obj.cells #[.int .i64 kd, .string nm, .string wd] 48)) hb; have d1 : w'.cell? ⟨w.heap.size, 1, none⟩ = some (.string nm) := blk_cell b_ 1; have d2 : w'.cell? ⟨w.heap.size, 2, none⟩ = some (.string wd) := blk_cell b_ 2; have HB := Aside0.mk (below_step ((Below.refl _ w).alloc (Nat.le_refl _) _) hb); clear hb b_) | (go_at_call 63; refine (C1.out _).mono ?_; rintro e w'' ⟨rfl, ⟨nd, rfl⟩⟩) | (go_at_call 64; refine (C2.out _).mono ?_; rintro e w'' ⟨rfl, ⟨nd2, rfl⟩⟩))
        go_ret
        exact ⟨by rw [← HR.out, K1.out, B1.out, B2.out]; rfl, by first | exact HB.out | exact pw_below_drewN HB.out _⟩
  · have K1 := Aside0.mk (show (decide (1 ≤ kd) && decide (kd ≤ 4)) = false by
      by_cases h1 : 1 ≤ kd
      · rw [decide_eq_true h1, decide_eq_false (by omega)]; rfl
      · rw [decide_eq_false h1]; rfl)
    rw [letV_none kd wd hk] at hL
    have CL := Aside0.mk hL
    clear hL hk c1 c2
    go_enter Try.func75, Try.ntmps75
    go_wp2_with (go_at_call 76; refine (CL.out _).mono ?_; rintro e w' ⟨rfl, hb⟩; have b_ := blk_below (blk_new w (Obj.cells #[.int .i64 kd, .string nm, .string wd] 48)) hb; have d1 : w'.cell? ⟨w.heap.size, 1, none⟩ = some (.string nm) := blk_cell b_ 1; have d2 : w'.cell? ⟨w.heap.size, 2, none⟩ = some (.string wd) := blk_cell b_ 2; have HB := Aside0.mk (below_step ((Below.refl _ w).alloc (Nat.le_refl _) _) hb); clear hb b_)
    go_ret
    exact ⟨by rw [← HR.out, K1.out]; rfl, by first | exact HB.out | exact pw_below_drewN HB.out _⟩
set_option maxHeartbeats 2000000 in
set_option maxRecDepth 100000 in
theorem impl_MatchesOk.calls (A0 : Option Addr) (c0 : Nat) (l0 : List Mch) (r : Bool) (w : World) (hr0 : Kd.C k48 w A0 l0.length l0) (hc0 : l0.length ≤ c0) (h : impl_MatchesOk.f l0 = some r) :
    Calls Try.prog 52 #[.slice A0 l0.length c0] w fun e w' => e = .returned (.bool r) ∧ Below w.heap.size w w' := by
  unfold impl_MatchesOk.f at h
  split at h
  case isFalse => cases h
  case isTrue hs =>
  have hr := Aside0.mk (Option.some.inj h).symm
  clear h
  have hN := bdM_len hs
  have C := Aside0.mk (fun W (hB : Below w.heap.size w W) => containsMatch.calls 75 #[] Try.f75 Try.func75 (by kernel_rfl) (by kernel_rfl) (fun x => !mchB x) A0 c0 l0 W (fun x hx W' _ => badMatch.calls x (bdM_at hs hx).1 (bdM_at hs hx).2 W') (Kd.C_below hr0 hB) hc0 hN)
  clear hr0 hs
  have E := Aside0.mk (show mchsB l0 = (decide (l0.length ≤ 4) && !(l0.any fun x => !mchB x)) by unfold mchsB; rw [← List.all_eq_not_any_not])
  obtain ⟨q, hq⟩ : ∃ q, (l0.any fun x => !mchB x) = q := ⟨_, rfl⟩
  obtain ⟨n0, hn0⟩ : ∃ n, l0.length = n := ⟨_, rfl⟩
  rw [hq, hn0] at C E
  rw [hn0]
  clear hn0 hq hc0 hN
  by_cases hlt : n0 ≤ 4
  · have c1 : decide ((n0 : Int) ≤ 4) = true := decide_eq_true (by omega)
    have c2 : decide (n0 ≤ 4) = true := decide_eq_true hlt
    have L := Aside0.mk c2
    clear hlt
    go_enter Try.func52, Try.ntmps52
    go_wp2_with (go_at_call 74; refine (C.out _ (Below.refl _ _)).mono ?_; rintro e w' ⟨rfl, hb⟩)
    go_ret
    exact ⟨by rw [hr.out, E.out, L.out]; rfl, hb⟩
  · have c1 : decide ((n0 : Int) ≤ 4) = false := decide_eq_false (by omega)
    have c2 : decide (n0 ≤ 4) = false := decide_eq_false hlt
    have L := Aside0.mk c2
    clear hlt
    go_enter Try.func52, Try.ntmps52
    go_wp2
    go_ret
    exact ⟨by rw [hr.out, E.out, L.out]; rfl, Below.refl _ _⟩

/-! ### impl_lets: function 80 -/
def impl_lets.f : Unit := ()
set_option maxHeartbeats 2000000 in
set_option maxRecDepth 100000 in
theorem impl_lets.calls (a : Int) (c b : ByteArray) (h1 : 1 ≤ a) (h4 : a ≤ 4) (w : World) : Calls Try.prog 80 #[letV a c, .string b] w fun e w' => e = .returned (.bool (letB a c b)) ∧ Below w.heap.size w w' := by
  obtain ⟨v, hv⟩ : ∃ v, letB a c b = v := ⟨_, rfl⟩
  rw [hv]
  have HV := Aside0.mk hv
  clear hv
  have hu1 := Try.underlying125
  have hu2 := Try.underlying126
  have hu3 := Try.underlying127
  have hu4 := Try.underlying128
  by_cases c1 : a = 1
  · subst c1
    have E := Aside0.mk (show letB 1 c b = (b.toList == c.toList) from rfl)
    show Calls Try.prog 80 #[.iface 125 (.agg #[.string c]), .string b] w _
    have ta0 : ∀ (v : Value) (W : World), (Instr.typeAssert (.iface 125 v) 108 125 true).run Try.prog W = .ok (.tuple #[v, .bool true]) W := fun v W => by rfl
    go_enter Try.func80, Try.ntmps80
    go_wp2
    go_ret
    exact ⟨by rw [← HV.out, E.out]; rfl, (Below.refl _ _).alloc (Nat.le_refl _) _⟩
  by_cases c2 : a = 2
  · subst c2
    have E := Aside0.mk (show letB 2 c b = (!(b.toList == c.toList)) from rfl)
    show Calls Try.prog 80 #[.iface 126 (.agg #[.string c]), .string b] w _
    have ta0 : ∀ (v : Value) (W : World), (Instr.typeAssert (.iface 126 v) 108 125 true).run Try.prog W = .ok (.tuple #[.agg #[.string ⟨#[]⟩], .bool false]) W := fun v W => by rfl
    have ta1 : ∀ (v : Value) (W : World), (Instr.typeAssert (.iface 126 v) 108 126 true).run Try.prog W = .ok (.tuple #[v, .bool true]) W := fun v W => by rfl
    go_enter Try.func80, Try.ntmps80
    go_wp2
    go_ret
    exact ⟨by rw [← HV.out, E.out]; rfl, (Below.refl _ _).alloc (Nat.le_refl _) _⟩
  by_cases c3 : a = 3
  · subst c3
    have E := Aside0.mk (show letB 3 c b = preB b c from rfl)
    show Calls Try.prog 80 #[.iface 127 (.agg #[.string c]), .string b] w _
    have ta0 : ∀ (v : Value) (W : World), (Instr.typeAssert (.iface 127 v) 108 125 true).run Try.prog W = .ok (.tuple #[.agg #[.string ⟨#[]⟩], .bool false]) W := fun v W => by rfl
    have ta1 : ∀ (v : Value) (W : World), (Instr.typeAssert (.iface 127 v) 108 126 true).run Try.prog W = .ok (.tuple #[.agg #[.string ⟨#[]⟩], .bool false]) W := fun v W => by rfl
    have ta2 : ∀ (v : Value) (W : World), (Instr.typeAssert (.iface 127 v) 108 127 true).run Try.prog W = .ok (.tuple #[v, .bool true]) W := fun v W => by rfl
    go_enter Try.func80, Try.ntmps80
    by_cases hp : c.size ≤ b.size
    · have p1 : decide ((c.size : Int) ≤ (b.size : Int)) = true := decide_eq_true (by omega)
      have p2 : decide (c.size ≤ b.size) = true := decide_eq_true hp
      have P := Aside0.mk p2
      go_wp2
      go_ret
      exact ⟨by rw [← HV.out, E.out, preB, P.out, Bool.true_and]; rfl, (Below.refl _ _).alloc (Nat.le_refl _) _⟩
    · have p1 : decide ((c.size : Int) ≤ (b.size : Int)) = false := decide_eq_false (by omega)
      have p2 : decide (c.size ≤ b.size) = false := decide_eq_false hp
      have P := Aside0.mk p2
      go_wp2
      go_ret
      exact ⟨by rw [← HV.out, E.out, preB, P.out, Bool.false_and]; rfl, (Below.refl _ _).alloc (Nat.le_refl _) _⟩
  · obtain rfl : a = 4 := by omega
    have E := Aside0.mk (show letB 4 c b = !preB b c from rfl)
    show Calls Try.prog 80 #[.iface 128 (.agg #[.string c]), .string b] w _
    have ta0 : ∀ (v : Value) (W : World), (Instr.typeAssert (.iface 128 v) 108 125 true).run Try.prog W = .ok (.tuple #[.agg #[.string ⟨#[]⟩], .bool false]) W := fun v W => by rfl
    have ta1 : ∀ (v : Value) (W : World), (Instr.typeAssert (.iface 128 v) 108 126 true).run Try.prog W = .ok (.tuple #[.agg #[.string ⟨#[]⟩], .bool false]) W := fun v W => by rfl
    have ta2 : ∀ (v : Value) (W : World), (Instr.typeAssert (.iface 128 v) 108 127 true).run Try.prog W = .ok (.tuple #[.agg #[.string ⟨#[]⟩], .bool false]) W := fun v W => by rfl
    have hm : ∀ (v : Value) (W : World), (method 250 128 v "loop.example/almanack/impl.word").run Try.prog W = .ok (122, v) W := fun v W => by rfl
    go_enter Try.func80, Try.ntmps80
    by_cases hp : c.size ≤ b.size
    · have p1 : decide ((c.size : Int) ≤ (b.size : Int)) = true := decide_eq_true (by omega)
      have p2 : decide (c.size ≤ b.size) = true := decide_eq_true hp
      have P := Aside0.mk p2
      go_wp2
      go_ret
      exact ⟨by rw [← HV.out, E.out, preB, P.out, Bool.true_and]; rfl, (Below.refl _ _).alloc (Nat.le_refl _) _⟩
    · have p1 : decide ((c.size : Int) ≤ (b.size : Int)) = false := decide_eq_false (by omega)
      have p2 : decide (c.size ≤ b.size) = false := decide_eq_false hp
      have P := Aside0.mk p2
      go_wp2
      go_ret
      exact ⟨by rw [← HV.out, E.out, preB, P.out, Bool.false_and]; rfl, (Below.refl _ _).alloc (Nat.le_refl _) _⟩

end Go.Proofs.Ytipbllegjcedgaa.QFnMatchesSome
