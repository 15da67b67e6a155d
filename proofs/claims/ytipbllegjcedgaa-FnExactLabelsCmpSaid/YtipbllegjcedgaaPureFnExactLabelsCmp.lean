/- The program's LabelsCmp answers as the reference's, for every two lists of labels; no condition. -/
import Derived.Test.YtipbllegjcedgaaFitFnExactLabelsCmp
import Derived.Test.YtipbllegjcedgaaWOwn
set_option linter.unusedVariables false
set_option linter.unusedSimpArgs false
namespace Go.Proofs.Ytipbllegjcedgaa.Pure
open Go.RowKit Go.Proofs.Ytipbllegjcedgaa.QFnExactLabelsCmp Go.Proofs.YtipbllegjcedgaaW.PrintWords Go.Proofs.YtipbllegjcedgaaW.PrintLast Go.Proofs.YtipbllegjcedgaaW.Own

theorem nat_lt {i n : Nat} (h : i < n) : ((i : Int) < (n : Int)) = True := by simp [h]
theorem nat_nlt {i n : Nat} (h : n ≤ i) : ((i : Int) < (n : Int)) = False := by simp [h]
theorem nat_pos (i : Nat) : (0 ≤ (i : Int)) = True := by simp
theorem wrap_succ {i : Nat} (h : i < 9223372036854775807) : wrap64 ((i : Int) + 1) = ((i + 1 : Nat) : Int) := by unfold wrap64; omega
theorem wrap_pred {i : Nat} (h : i < 9223372036854775807) : wrap64 ((i : Int) - 1) = (i : Int) - 1 := by unfold wrap64; omega
theorem wrap_sub {a : Int} {n : Nat} (h0 : 0 ≤ a) (h1 : a ≤ 9223372036854775807) (hn : n ≤ maxLen) : wrap64 (a - (n : Int)) = a - (n : Int) := by unfold wrap64; unfold maxLen at hn; omega
theorem rd_nat (l : List Int) (i : Nat) : rd l (i : Int) = l.getD i 0 := rfl
theorem getD_of {α : Type} {l : List α} {i : Nat} (h : i < l.length) (d : α) : l.getD i d = l[i] := by simp [List.getD, List.getElem?_eq_getElem h]
theorem drop_at {α : Type} {l : List α} {i : Nat} (h : i < l.length) : l.drop i = l[i] :: l.drop (i + 1) := List.drop_eq_getElem_cons h
theorem bt_nat (s : ByteArray) (i : Nat) (h : i < s.size) : bt s (i : Int) = ((s[i]'h).toNat : Int) := by
  unfold bt
  have : (i : Int).toNat = i := by omega
  simp [h]
/-- From an index on: at the end, and one round. -/
theorem from_index {P : Nat → Prop} {n : Nat} (h0 : P n) (h1 : ∀ i, i < n → P (i + 1) → P i) : ∀ i, i ≤ n → P i := by
  have key : ∀ d i, i + d = n → P i := by
    intro d
    induction d with
    | zero => intro i h; obtain rfl : i = n := by omega
              exact h0
    | succ d ih => intro i h; exact h1 i (by omega) (ih (i + 1) (by omega))
  intro i hi
  exact key (n - i) i (by omega)
/-- A row that is filled from the front. -/
def fillTo {α : Type} (xs : List α) (z : α) (i : Nat) : List α := xs.take i ++ List.replicate (xs.length - i) z
theorem fillTo_length {α : Type} (xs : List α) (z : α) (i : Nat) (h : i ≤ xs.length) : (fillTo xs z i).length = xs.length := by
  unfold fillTo; rw [List.length_append, List.length_take, List.length_replicate]; omega
theorem fillTo_zero {α : Type} (xs : List α) (z : α) : fillTo xs z 0 = List.replicate xs.length z := by simp [fillTo]
theorem fillTo_all {α : Type} (xs : List α) (z : α) : fillTo xs z xs.length = xs := by simp [fillTo]
theorem fillTo_set {α : Type} (xs : List α) (z : α) (i : Nat) (h : i < xs.length) : (fillTo xs z i).set i xs[i] = fillTo xs z (i + 1) := by
  unfold fillTo
  have hl : (xs.take i).length = i := by rw [List.length_take]; omega
  have e : xs.length - i = (xs.length - (i + 1)) + 1 := by omega
  rw [e, List.replicate_succ, List.set_append_right _ _ (by omega), hl, Nat.sub_self, List.set_cons_zero, List.take_succ_eq_append_getElem h, List.append_assoc]
  rfl
theorem spec_LabelsOk_eq (l : List Lbl) (h : bdL l = true) : spec_LabelsOk.f l = some (labelsB l) := by unfold spec_LabelsOk.f; rw [if_pos h]
theorem impl_LabelsOk_eq (l : List Lbl) (h : bdL l = true) : impl_LabelsOk.f l = some (labelsB l) := by unfold impl_LabelsOk.f; rw [if_pos h]
def In_Label (x : S62) : Prop := x.f0.size ≤ 1048576 ∧ x.f1.size ≤ 1048576
def Bd_Label (x : S52) : Prop := x.f0.size ≤ 1048576 ∧ x.f1.size ≤ 1048576
def cv_Label (x : S62) : S52 := ⟨x.f0, x.f1⟩
theorem rdl_Label (l : List S62) (i : Nat) : rd_T62 l (i : Int) = l.getD i z62 := rfl
theorem rdi_Label (l : List S52) (i : Nat) : rd_T52 l (i : Int) = l.getD i z52 := rfl
theorem rdp_Label (l : List S52) (i : Nat) (h : 0 < i) : rd_T52 l ((i : Int) - 1) = l.getD (i - 1) z52 := by
  unfold rd_T52
  congr 1
  omega
theorem cvbd_Label (x : S62) (h : In_Label x) : Bd_Label (cv_Label x) := ⟨h.1, h.2⟩
theorem cvbds_Label (l : List S62) (h : ∀ x ∈ l, In_Label x) : ∀ y ∈ l.map cv_Label, Bd_Label y := fun y hy => by obtain ⟨u, hu, rfl⟩ := List.mem_map.1 hy; exact cvbd_Label u (h u hu)
theorem bdL_of (l : List Lbl) (hl : l.length ≤ 1048576) (h : ∀ x ∈ l, Bd_Label x) : bdL l = true := by
  unfold bdL
  rw [decide_eq_true (show l.length < 9223372036854775807 by omega), Bool.true_and]
  refine List.all_eq_true.2 fun x hx => ?_
  have hb := h x hx
  unfold Bd_Label at hb
  simp only [bdS, decide_eq_true (show x.f0.size < 9223372036854775807 by omega), decide_eq_true (show x.f1.size < 9223372036854775807 by omega), Bool.and_self]
theorem bl_irrefl : ∀ x : List UInt8, Op.bytesLess x x = false
  | [] => rfl
  | a :: x => by
    rw [Op.bytesLess, bl_irrefl x]
    simp
theorem bl_asymm : ∀ x y : List UInt8, Op.bytesLess x y = true → Op.bytesLess y x = false
  | [], [], h => by cases h
  | _ :: _, [], h => by cases h
  | [], _ :: _, _ => rfl
  | a :: x, b :: y, h => by
    rw [Op.bytesLess, Bool.or_eq_true, Bool.and_eq_true, decide_eq_true_eq, beq_iff_eq] at h
    rw [Op.bytesLess, Bool.or_eq_false_iff]
    rcases h with h | ⟨h, h2⟩
    · refine ⟨decide_eq_false (UInt8.lt_asymm h), ?_⟩
      rw [beq_eq_false_iff_ne.mpr (UInt8.ne_of_lt h).symm, Bool.false_and]
    · subst h
      refine ⟨decide_eq_false (UInt8.lt_irrefl a), ?_⟩
      rw [bl_asymm x y h2, Bool.and_false]
theorem bl_trans : ∀ x y z : List UInt8, Op.bytesLess x y = true → Op.bytesLess y z = true → Op.bytesLess x z = true
  | x, [], _, h, _ => by cases x <;> simp [Op.bytesLess] at h
  | _, _ :: _, [], _, h => by cases h
  | [], _ :: _, _ :: _, _, _ => rfl
  | a :: x, b :: y, c :: z, h, g => by
    rw [Op.bytesLess, Bool.or_eq_true, Bool.and_eq_true, decide_eq_true_eq, beq_iff_eq] at h g ⊢
    rcases h with h | ⟨h, h2⟩
    · rcases g with g | ⟨g, g2⟩
      · exact Or.inl (UInt8.lt_trans h g)
      · exact Or.inl (g ▸ h)
    · rcases g with g | ⟨g, g2⟩
      · exact Or.inl (h ▸ g)
      · exact Or.inr ⟨h.trans g, bl_trans x y z h2 g2⟩
theorem bl_tri : ∀ x y : List UInt8, Op.bytesLess x y = false → Op.bytesLess y x = false → x = y
  | [], [], _, _ => rfl
  | _ :: _, [], _, h => by cases h
  | [], _ :: _, h, _ => by cases h
  | a :: x, b :: y, h, g => by
    rw [Op.bytesLess, Bool.or_eq_false_iff, decide_eq_false_iff_not] at h g
    have e : a = b := UInt8.le_antisymm (UInt8.not_lt.mp g.1) (UInt8.not_lt.mp h.1)
    subst e
    have h2 := h.2
    have g2 := g.2
    rw [beq_self_eq_true, Bool.true_and] at h2 g2
    rw [bl_tri x y h2 g2]
theorem my_toList_inj {a b : ByteArray} (h : a.toList = b.toList) : a = b := by
  rw [ByteArray.toList_eq, ByteArray.toList_eq] at h
  exact Go.WideShapes.bytes_inj h
theorem cmpT_lt (a b : ByteArray) : cmpT a b < 0 ↔ Op.bytesLess a.toList b.toList = true := by
  unfold cmpT
  cases h1 : Op.bytesLess a.toList b.toList
  · cases h2 : (a.toList == b.toList) <;> simp
  · simp
theorem cmpT_anti (a b : ByteArray) : cmpT b a = - cmpT a b := by
  unfold cmpT
  cases h : Op.bytesLess a.toList b.toList
  · cases g : Op.bytesLess b.toList a.toList
    · have e := bl_tri _ _ h g
      rw [e]
      simp
    · have e : (a.toList == b.toList) = false := by
        cases h2 : (a.toList == b.toList)
        · rfl
        · rw [beq_iff_eq.mp h2, bl_irrefl] at g; cases g
      rw [e]
      simp
  · have e : (b.toList == a.toList) = false := by
      cases h2 : (b.toList == a.toList)
      · rfl
      · rw [beq_iff_eq.mp h2, bl_irrefl] at h; cases h
    rw [bl_asymm _ _ h, e]
    simp
theorem cmpT_zero (a b : ByteArray) : cmpT a b = 0 ↔ a = b := by
  unfold cmpT
  constructor
  · intro h
    cases h1 : Op.bytesLess a.toList b.toList
    · cases h2 : (a.toList == b.toList)
      · rw [h1, h2] at h; simp at h
      · exact my_toList_inj (beq_iff_eq.mp h2)
    · rw [h1] at h; simp at h
  · rintro rfl
    rw [bl_irrefl]; simp
theorem cmpT_trans (a b c : ByteArray) (h : cmpT a b < 0) (g : cmpT b c < 0) : cmpT a c < 0 := by
  rw [cmpT_lt] at h g ⊢
  exact bl_trans _ _ _ h g
theorem cmp1_anti (x y : Lbl) : cmp1 y x = - cmp1 x y := by
  unfold cmp1
  rw [cmpT_anti x.f0 y.f0, cmpT_anti x.f1 y.f1]
  by_cases h : cmpT x.f0 y.f0 = 0
  · rw [if_pos h, if_pos (by omega)]
  · rw [if_neg h, if_neg (by omega)]
theorem cmp1_zero (x y : Lbl) : cmp1 x y = 0 ↔ x = y := by
  obtain ⟨a, b⟩ := x
  obtain ⟨c, d⟩ := y
  unfold cmp1
  constructor
  · intro h
    by_cases h0 : cmpT a c = 0
    · rw [if_pos h0] at h
      rw [(cmpT_zero a c).1 h0, (cmpT_zero b d).1 h]
    · rw [if_neg h0] at h
      exact absurd h h0
  · intro h
    injection h with h1 h2
    rw [if_pos ((cmpT_zero a c).2 h1)]
    exact (cmpT_zero b d).2 h2
theorem cmp1_trans (x y z : Lbl) (h : cmp1 x y < 0) (g : cmp1 y z < 0) : cmp1 x z < 0 := by
  unfold cmp1 at h g ⊢
  by_cases h0 : cmpT x.f0 y.f0 = 0
  · rw [if_pos h0] at h
    have e := (cmpT_zero _ _).1 h0
    rw [e]
    by_cases g0 : cmpT y.f0 z.f0 = 0
    · rw [if_pos g0] at g ⊢
      exact cmpT_trans _ _ _ h g
    · rw [if_neg g0] at g ⊢
      exact g
  · rw [if_neg h0] at h
    by_cases g0 : cmpT y.f0 z.f0 = 0
    · have e := (cmpT_zero _ _).1 g0
      rw [← e, if_neg h0]
      exact h
    · rw [if_neg g0] at g
      have t := cmpT_trans _ _ _ h g
      rw [if_neg (by omega)]
      exact t
theorem cmpL_anti : ∀ a b : List Lbl, cmpL b a = - cmpL a b
  | [], [] => rfl
  | [], _ :: _ => rfl
  | _ :: _, [] => rfl
  | x :: a, y :: b => by
    rw [cmpL, cmpL, cmp1_anti x y, cmpL_anti a b]
    by_cases h : cmp1 x y = 0
    · rw [if_pos h, if_pos (by omega)]
    · rw [if_neg h, if_neg (by omega)]
theorem cmpL_zero : ∀ a b : List Lbl, cmpL a b = 0 ↔ a = b
  | [], [] => by simp [cmpL]
  | [], _ :: _ => by simp [cmpL]
  | _ :: _, [] => by simp [cmpL]
  | x :: a, y :: b => by
    rw [cmpL]
    by_cases h : cmp1 x y = 0
    · rw [if_pos h, cmpL_zero a b, (cmp1_zero x y).1 h]; simp
    · rw [if_neg h]
      constructor
      · intro g; exact absurd g h
      · intro g
        injection g with g1 g2
        exact absurd ((cmp1_zero x y).2 g1) h
theorem cmpL_trans : ∀ a b c : List Lbl, cmpL a b ≤ 0 → cmpL b c ≤ 0 → cmpL a c ≤ 0
  | [], _, [], _, _ => by simp [cmpL]
  | [], _, _ :: _, _, _ => by simp [cmpL]
  | _ :: _, [], _, h, _ => by simp [cmpL] at h
  | _ :: _, _ :: _, [], _, g => by simp [cmpL] at g
  | x :: a, y :: b, z :: c, h, g => by
    rw [cmpL] at h g ⊢
    by_cases h0 : cmp1 x y = 0
    · rw [if_pos h0] at h
      rw [(cmp1_zero x y).1 h0]
      by_cases g0 : cmp1 y z = 0
      · rw [if_pos g0] at g ⊢
        exact cmpL_trans a b c h g
      · rw [if_neg g0] at g ⊢
        exact g
    · rw [if_neg h0] at h
      by_cases g0 : cmp1 y z = 0
      · rw [← (cmp1_zero y z).1 g0, if_neg h0]
        exact h
      · rw [if_neg g0] at g
        have t := cmp1_trans x y z (by omega) (by omega)
        rw [if_neg (by omega)]
        omega
theorem rdLb (l : List Lbl) {i : Nat} (h : i < l.length) : rd_T52 l (i : Int) = l[i] := by unfold rd_T52; rw [Int.toNat_natCast, getD_of h]
theorem spec_l3Texts_eq (a b : ByteArray) : spec_l3Texts.f a b = some (cmpT a b) := rfl
theorem spec_l3Cmp_ev (a b : List Lbl) (ha : a.length < 9223372036854775807) : Ev (fun k => spec_l3Cmp.f k a b) (cmpL a b) := by
  have key : ∀ i, i ≤ min a.length b.length → Ev (fun k => spec_l3Cmp.l0 k a b (i : Int)) (cmpL (a.drop i) (b.drop i)) := by
    refine from_index ?_ ?_
    · obtain ⟨m, hm⟩ : ∃ m, min a.length b.length = m := ⟨_, rfl⟩
      rw [hm]
      have fin : Ev (fun k => spec_l3Cmp.j1 k a b (m : Int) false) (cmpL (a.drop m) (b.drop m)) := by
        refine Ev.step (fun k => by rw [spec_l3Cmp.j1]) ?_
        refine Ev.ifn (by decide) ?_
        by_cases c1 : (a.length : Int) < (b.length : Int)
        · rw [cmpL_none a b m (by omega), decide_eq_true (show m < b.length by omega)]
          exact Ev.ifp c1 (Ev.some_ rfl)
        · refine Ev.ifn c1 ?_
          by_cases c2 : (a.length : Int) > (b.length : Int)
          · rw [cmpL_more a b m (by omega) (by omega)]
            exact Ev.ifp c2 (Ev.now _)
          · rw [cmpL_none a b m (by omega), decide_eq_false (show ¬ m < b.length by omega)]
            exact Ev.ifn c2 (Ev.some_ rfl)
      refine Ev.step (fun k => by rw [spec_l3Cmp.l0]) ?_
      by_cases c : (m : Int) < (a.length : Int)
      · rw [decide_eq_false (show ¬ (m : Int) < (b.length : Int) by omega)]
        exact Ev.ifp c fin
      · exact Ev.ifn c fin
    · intro i hi ih
      have hia : i < a.length := by omega
      have hib : i < b.length := by omega
      have st := cmpL_step a b a[i] i hia hib
      rw [getD_of hia, getD_of hib] at st
      rw [st]
      refine Ev.step (fun k => by rw [spec_l3Cmp.l0]) ?_
      rw [decide_eq_true (show (i : Int) < (b.length : Int) by omega)]
      refine Ev.ifp (by omega) ?_
      refine Ev.step (fun k => by rw [spec_l3Cmp.j1]) ?_
      rw [rdLb a hia, rdLb b hib, wrap_succ (show i < 9223372036854775807 by omega)]
      refine Ev.ifp rfl (Ev.ifp (by omega) (Ev.ifp (by omega) (Ev.ifp (by omega) (Ev.bind (Ev.const (spec_l3Texts_eq _ _)) ?_))))
      by_cases c1 : cmpT a[i].f0 b[i].f0 = 0
      · refine Ev.ifp c1 (Ev.bind (Ev.const (spec_l3Texts_eq _ _)) ?_)
        have e : cmp1 a[i] b[i] = cmpT a[i].f1 b[i].f1 := by unfold cmp1; rw [if_pos c1]
        rw [e]
        by_cases c2 : cmpT a[i].f1 b[i].f1 = 0
        · rw [if_pos c2]
          exact Ev.ifp c2 ih
        · rw [if_neg c2]
          exact Ev.ifn c2 (Ev.now _)
      · have e : cmp1 a[i] b[i] = cmpT a[i].f0 b[i].f0 := by unfold cmp1; rw [if_neg c1]
        rw [e, if_neg c1]
        exact Ev.ifn c1 (Ev.now _)
  unfold spec_l3Cmp.f
  have := key 0 (Nat.zero_le _)
  rw [List.drop_zero, List.drop_zero] at this
  exact this
theorem impl_cmpLabels_eq (a b : List Lbl) (ha : a.length < 9223372036854775807) (hb : b.length < 9223372036854775807) : impl_cmpLabels.f a b = some (cmpL a b) := by
  unfold impl_cmpLabels.f
  rw [if_pos ⟨ha, hb⟩]
def labelsCmpV (a b : List Lbl) : Int := if labelsB a = true then (if labelsB b = true then cmpL a b else 0) else 0
theorem spec_LabelsCmp_ev (a b : List Lbl) (ha : bdL a = true) (hb : bdL b = true) : Ev (fun k => spec_LabelsCmp.f k a b) (labelsCmpV a b) := by
  unfold spec_LabelsCmp.f labelsCmpV
  refine Ev.bind (Ev.const (spec_LabelsOk_eq a ha)) ?_
  cases labelsB a
  · exact Ev.ifn (by decide) (Ev.now _)
  refine Ev.ifp rfl (Ev.bind (Ev.const (spec_LabelsOk_eq b hb)) ?_)
  cases labelsB b
  · exact Ev.ifn (by decide) (Ev.now _)
  exact Ev.ifp rfl (Ev.bind (spec_l3Cmp_ev a b (bdL_len ha)) (Ev.now _))
theorem impl_LabelsCmp_eq (a b : List Lbl) (ha : bdL a = true) (hb : bdL b = true) : impl_LabelsCmp.f a b = some (labelsCmpV a b) := by
  unfold impl_LabelsCmp.f labelsCmpV
  rw [impl_LabelsOk_eq a ha]
  cases labelsB a
  · rfl
  rw [Option.bind_some, if_pos rfl, impl_LabelsOk_eq b hb, if_pos rfl]
  cases labelsB b
  · rfl
  rw [Option.bind_some, if_pos rfl, impl_cmpLabels_eq a b (bdL_len ha) (bdL_len hb), if_pos rfl]
  rfl
theorem sz_Label (x : S62) (hf : Fit62 x) (a : Int) (h0 : 0 ≤ a) (h1 : a ≤ 1048576) : ∃ r, Ev (fun k => laws_szLabel.f x.f0 x.f1 a) r ∧ (r = -1 ∨ (0 ≤ r ∧ r ≤ a ∧ In_Label x)) := by
  unfold laws_szLabel.f
  have hz0 : x.f0.size ≤ maxLen := hf.1
  have w0 : wrap64 (a - (x.f0.size : Int)) = a - (x.f0.size : Int) := wrap_sub (by omega) (by omega) hz0
  simp only [w0]
  by_cases c0 : a - (x.f0.size : Int) < 0
  · exact ⟨-1, Ev.ifp c0 (Ev.now _), .inl rfl⟩
  obtain ⟨b0, hb0⟩ : ∃ b, b = a - (x.f0.size : Int) := ⟨_, rfl⟩
  rw [← hb0] at c0
  simp only [← hb0]
  have hz1 : x.f1.size ≤ maxLen := hf.2
  have w1 : wrap64 (b0 - (x.f1.size : Int)) = b0 - (x.f1.size : Int) := wrap_sub (by omega) (by omega) hz1
  simp only [w1]
  by_cases c1 : b0 - (x.f1.size : Int) < 0
  · exact ⟨-1, Ev.ifn c0 (Ev.ifp c1 (Ev.now _)), .inl rfl⟩
  obtain ⟨b1, hb1⟩ : ∃ b, b = b0 - (x.f1.size : Int) := ⟨_, rfl⟩
  rw [← hb1] at c1
  simp only [← hb1]
  refine ⟨b1, Ev.ifn c0 (Ev.ifn c1 (Ev.now _)), .inr ⟨by omega, by omega, ⟨(show x.f0.size ≤ 1048576 by omega), (show x.f1.size ≤ 1048576 by omega)⟩⟩⟩
theorem szs_Label (l : List S62) (hf : FitList Fit62 l) (a : Int) (h0 : 0 ≤ a) (h1 : a ≤ 1048576) : ∃ r, Ev (fun k => laws_szLabelS.f k l a) r ∧ (r = -1 ∨ (0 ≤ r ∧ r ≤ a ∧ l.length ≤ 1048576 ∧ ∀ x ∈ l, In_Label x)) := by
  have w : wrap64 (a - (l.length : Int)) = a - (l.length : Int) := wrap_sub h0 (by omega) hf.1
  unfold laws_szLabelS.f
  simp only [w]
  by_cases c : a - (l.length : Int) < 0
  · exact ⟨-1, Ev.ifp c (Ev.now _), .inl rfl⟩
  have key : ∀ i, i ≤ l.length → ∀ b : Int, 0 ≤ b → b ≤ a → ∃ r, Ev (fun k => laws_szLabelS.l0 k l b (i : Int)) r ∧ (r = -1 ∨ (0 ≤ r ∧ r ≤ b ∧ ∀ x ∈ l.drop i, In_Label x)) := by
    refine from_index ?_ ?_
    · intro b hb0 hb1
      refine ⟨b, ?_, .inr ⟨hb0, Int.le_refl _, by rw [List.drop_length]; intro x hx; cases hx⟩⟩
      refine Ev.step (fun k => by rw [laws_szLabelS.l0]) ?_
      simp only [nat_nlt (Nat.le_refl _), if_false]
      exact Ev.now _
    · intro i hi ih b hb0 hb1
      obtain ⟨r1, e1, hr1⟩ := sz_Label l[i] (hf.2 _ (List.getElem_mem _)) b hb0 (by omega)
      rcases hr1 with hr1 | ⟨hr0, hrb, hin⟩
      · refine ⟨-1, ?_, .inl rfl⟩
        refine Ev.step (fun k => by rw [laws_szLabelS.l0]) ?_
        simp only [nat_lt hi, nat_pos, if_true, rdl_Label, getD_of hi]
        exact Ev.bind e1 (Ev.ifp (by omega) (Ev.now _))
      · obtain ⟨r2, e2, hr2⟩ := ih r1 hr0 (by omega)
        refine ⟨r2, ?_, ?_⟩
        · refine Ev.step (fun k => by rw [laws_szLabelS.l0]) ?_
          simp only [nat_lt hi, nat_pos, if_true, rdl_Label, getD_of hi, wrap_succ (show i < 9223372036854775807 by omega)]
          exact Ev.bind e1 (Ev.ifn (by omega) e2)
        · rcases hr2 with hr2 | ⟨h3, h4, h5⟩
          · exact .inl hr2
          · refine .inr ⟨h3, by omega, ?_⟩
            rw [drop_at hi]
            intro x hx
            rcases List.mem_cons.1 hx with rfl | hx
            · exact hin
            · exact h5 x hx
  obtain ⟨r, er, hr⟩ := key 0 (Nat.zero_le _) (a - (l.length : Int)) (by omega) (by omega)
  refine ⟨r, Ev.ifn c er, ?_⟩
  rcases hr with hr | ⟨h3, h4, h5⟩
  · exact .inl hr
  · exact .inr ⟨h3, by omega, by omega, by rwa [List.drop_zero] at h5⟩
theorem to_Label (x : S62) (h : In_Label x) : Ev (fun k => laws_toLabel.f x.f0 x.f1) ((cv_Label x).f0, (cv_Label x).f1) := Ev.const rfl
theorem tos_Label (l : List S62) (hl : l.length ≤ 1048576) (h : ∀ x ∈ l, In_Label x) : Ev (fun k => laws_toLabelS.f k l) (l.map cv_Label) := by
  have hm : (l.map cv_Label).length = l.length := List.length_map _
  have key : ∀ i, i ≤ l.length → Ev (fun k => laws_toLabelS.l0 k l (fillTo (l.map cv_Label) z52 i) (i : Int)) (l.map cv_Label) := by
    refine from_index ?_ ?_
    · refine Ev.step (fun k => by rw [laws_toLabelS.l0]) ?_
      simp only [nat_nlt (Nat.le_refl _), if_false]
      exact Ev.const (by rw [← hm, fillTo_all])
    · intro i hi ih
      refine Ev.step (fun k => by rw [laws_toLabelS.l0]) ?_
      have e : (fillTo (l.map cv_Label) z52 i).length = l.length := by rw [fillTo_length _ _ _ (by omega), hm]
      simp only [nat_lt hi, nat_pos, if_true, rdl_Label, getD_of hi, wrap_succ (show i < 9223372036854775807 by omega), e, Int.toNat_natCast]
      refine Ev.bind (to_Label l[i] (h _ (List.getElem_mem _))) ?_
      have s := fillTo_set (l.map cv_Label) z52 i (by omega)
      rw [List.getElem_map] at s
      show Ev (fun k => laws_toLabelS.l0 k l ((fillTo (l.map cv_Label) z52 i).set i (cv_Label l[i])) ((i + 1 : Nat) : Int)) _
      rw [s]
      exact ih
  unfold laws_toLabelS.f
  refine Ev.ifp (by omega) (Ev.ifp (by simp; omega) ?_)
  have := key 0 (Nat.zero_le _)
  rw [fillTo_zero, hm] at this
  simp only [Int.toNat_natCast]
  exact this
theorem eq_Label (x : S52) (h : Bd_Label x) : Ev (fun k => laws_eqLabel.f x.f0 x.f1 x.f0 x.f1) true := by
  refine Ev.const ?_
  simp [laws_eqLabel.f]
theorem eqs_Label (l : List S52) (hl : l.length < 9223372036854775807) (h : ∀ x ∈ l, Bd_Label x) : Ev (fun k => laws_eqLabelS.f k l l) true := by
  have key : ∀ i, i ≤ l.length → Ev (fun k => laws_eqLabelS.l0 k l l (i : Int)) true := by
    refine from_index ?_ ?_
    · refine Ev.step (fun k => by rw [laws_eqLabelS.l0]) ?_
      simp only [nat_nlt (Nat.le_refl _), if_false]
      exact Ev.now _
    · intro i hi ih
      refine Ev.step (fun k => by rw [laws_eqLabelS.l0]) ?_
      simp only [nat_lt hi, nat_pos, if_true, rdi_Label, getD_of hi, wrap_succ (show i < 9223372036854775807 by omega)]
      refine Ev.bind (eq_Label l[i] (h _ (List.getElem_mem _))) (Ev.ifp rfl ?_)
      exact ih
  unfold laws_eqLabelS.f
  refine Ev.ifp rfl ?_
  exact key 0 (Nat.zero_le _)

theorem FnExactLabelsCmp : laws_FnExactLabelsCmp.Pure := by
  intro l0 l1 hf0 hf1
  apply Ev.rounds
  unfold laws_FnExactLabelsCmp.f
  obtain ⟨r, er, hr⟩ := szs_Label l0 hf0 1048576 (by omega) (by omega)
  refine Ev.bind er ?_
  rcases hr with hr | ⟨g0, g1, hl0, hin0⟩
  · exact Ev.ifp (by omega) (Ev.now _)
  refine Ev.ifn (by omega) ?_
  obtain ⟨q, eq, hq⟩ := szs_Label l1 hf1 r g0 g1
  refine Ev.bind eq ?_
  rcases hq with hq | ⟨k0, k1, hl1, hin1⟩
  · exact Ev.ifp (by omega) (Ev.now _)
  refine Ev.ifn (by omega) ?_
  have hm0 : (l0.map cv_Label).length = l0.length := List.length_map _
  have hm1 : (l1.map cv_Label).length = l1.length := List.length_map _
  have hb0 := bdL_of (l0.map cv_Label) (by omega) (cvbds_Label l0 hin0)
  have hb1 := bdL_of (l1.map cv_Label) (by omega) (cvbds_Label l1 hin1)
  have T0 := tos_Label l0 hl0 hin0
  have T1 := tos_Label l1 hl1 hin1
  refine Ev.bind T0 (Ev.bind T1 (Ev.bind (spec_LabelsCmp_ev _ _ hb0 hb1) (Ev.bind T0 (Ev.bind T1 (Ev.bind (Ev.const (impl_LabelsCmp_eq _ _ hb0 hb1)) (Ev.ifp rfl ?_))))))
  refine Ev.bind T0 (Ev.bind (eqs_Label _ (by omega) (cvbds_Label l0 hin0)) ?_)
  refine Ev.ifp rfl (Ev.bind T1 (Ev.bind (eqs_Label _ (by omega) (cvbds_Label l1 hin1)) ?_))
  exact Ev.ifp rfl (Ev.now _)

end Go.Proofs.Ytipbllegjcedgaa.Pure
