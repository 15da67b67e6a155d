/- Labels stand ahead of others just if these stand behind, and are the same just if neither does, for labels that are drawn; no condition. -/
import Derived.Test.YtipbllegjcedgaaQFnLabelsCmpx5
import Derived.Test.YtipbllegjcedgaaWOwn
set_option linter.unusedVariables false
set_option linter.unusedSimpArgs false
namespace Go.Proofs.Ytipbllegjcedgaa.Pure
open Go.RowKit Go.Proofs.Ytipbllegjcedgaa.QFnLabelsCmp Go.Proofs.YtipbllegjcedgaaW.PrintWords Go.Proofs.YtipbllegjcedgaaW.PrintLast Go.Proofs.YtipbllegjcedgaaW.Own

theorem nat_lt {i n : Nat} (h : i < n) : ((i : Int) < (n : Int)) = True := by simp [h]
theorem nat_nlt {i n : Nat} (h : n ≤ i) : ((i : Int) < (n : Int)) = False := by simp [h]
theorem nat_pos (i : Nat) : (0 ≤ (i : Int)) = True := by simp
theorem wrap_succ {i : Nat} (h : i < 9223372036854775807) : wrap64 ((i : Int) + 1) = ((i + 1 : Nat) : Int) := by unfold wrap64; omega
theorem wrap_pred {i : Nat} (h : i < 9223372036854775807) : wrap64 ((i : Int) - 1) = (i : Int) - 1 := by unfold wrap64; omega
theorem wrap_sub {a : Int} {n : Nat} (h0 : 0 ≤ a) (h1 : a ≤ 9223372036854775807) (hn : n ≤ maxLen) : wrap64 (a - (n : Int)) = a - (n : Int) := by unfold wrap64; unfold maxLen at hn; omega
theorem rd_nat (l : List Int) (i : Nat) : rd l (i : Int) = l.getD i 0 := rfl
theorem getD_of {α : Type} {l : List α} {i : Nat} (h : i < l.length) (d : α) : l.getD i d = l[i] := by simp [List.getD, List.getElem?_eq_getElem h]
theorem drop_at {α : Type} {l : List α} {i : Nat} (h : i < l.length) : l.drop i = l[i] :: l.drop (i + 1) := List.drop_eq_getElem_cons h
theorem bt_nat (s : ByteArray) (i : Nat) (h : i < s.size) : bt s (i : Int) = ((s[i]'h).toNat : Int) := by
  unfold bt
  have : (i : Int).toNat = i := by omega
  simp [h]
/-- From an index on: at the end, and one round. -/
theorem from_index {P : Nat → Prop} {n : Nat} (h0 : P n) (h1 : ∀ i, i < n → P (i + 1) → P i) : ∀ i, i ≤ n → P i := by
  have key : ∀ d i, i + d = n → P i := by
    intro d
    induction d with
    | zero => intro i h; obtain rfl : i = n := by omega
              exact h0
    | succ d ih => intro i h; exact h1 i (by omega) (ih (i + 1) (by omega))
  intro i hi
  exact key (n - i) i (by omega)
/-- A row that is filled from the front. -/
def fillTo {α : Type} (xs : List α) (z : α) (i : Nat) : List α := xs.take i ++ List.replicate (xs.length - i) z
theorem fillTo_length {α : Type} (xs : List α) (z : α) (i : Nat) (h : i ≤ xs.length) : (fillTo xs z i).length = xs.length := by
  unfold fillTo; rw [List.length_append, List.length_take, List.length_replicate]; omega
theorem fillTo_zero {α : Type} (xs : List α) (z : α) : fillTo xs z 0 = List.replicate xs.length z := by simp [fillTo]
theorem fillTo_all {α : Type} (xs : List α) (z : α) : fillTo xs z xs.length = xs := by simp [fillTo]
theorem fillTo_set {α : Type} (xs : List α) (z : α) (i : Nat) (h : i < xs.length) : (fillTo xs z i).set i xs[i] = fillTo xs z (i + 1) := by
  unfold fillTo
  have hl : (xs.take i).length = i := by rw [List.length_take]; omega
  have e : xs.length - i = (xs.length - (i + 1)) + 1 := by omega
  rw [e, List.replicate_succ, List.set_append_right _ _ (by omega), hl, Nat.sub_self, List.set_cons_zero, List.take_succ_eq_append_getElem h, List.append_assoc]
  rfl
theorem spec_LabelsOk_eq (l : List Lbl) (h : bdL l = true) : spec_LabelsOk.f l = some (labelsB l) := by unfold spec_LabelsOk.f; rw [if_pos h]
theorem impl_LabelsOk_eq (l : List Lbl) (h : bdL l = true) : impl_LabelsOk.f l = some (labelsB l) := by unfold impl_LabelsOk.f; rw [if_pos h]
theorem bl_irrefl : ∀ x : List UInt8, Op.bytesLess x x = false
  | [] => rfl
  | a :: x => by
    rw [Op.bytesLess, bl_irrefl x]
    simp
theorem bl_asymm : ∀ x y : List UInt8, Op.bytesLess x y = true → Op.bytesLess y x = false
  | [], [], h => by cases h
  | _ :: _, [], h => by cases h
  | [], _ :: _, _ => rfl
  | a :: x, b :: y, h => by
    rw [Op.bytesLess, Bool.or_eq_true, Bool.and_eq_true, decide_eq_true_eq, beq_iff_eq] at h
    rw [Op.bytesLess, Bool.or_eq_false_iff]
    rcases h with h | ⟨h, h2⟩
    · refine ⟨decide_eq_false (UInt8.lt_asymm h), ?_⟩
      rw [beq_eq_false_iff_ne.mpr (UInt8.ne_of_lt h).symm, Bool.false_and]
    · subst h
      refine ⟨decide_eq_false (UInt8.lt_irrefl a), ?_⟩
      rw [bl_asymm x y h2, Bool.and_false]
theorem bl_trans : ∀ x y z : List UInt8, Op.bytesLess x y = true → Op.bytesLess y z = true → Op.bytesLess x z = true
  | x, [], _, h, _ => by cases x <;> simp [Op.bytesLess] at h
  | _, _ :: _, [], _, h => by cases h
  | [], _ :: _, _ :: _, _, _ => rfl
  | a :: x, b :: y, c :: z, h, g => by
    rw [Op.bytesLess, Bool.or_eq_true, Bool.and_eq_true, decide_eq_true_eq, beq_iff_eq] at h g ⊢
    rcases h with h | ⟨h, h2⟩
    · rcases g with g | ⟨g, g2⟩
      · exact Or.inl (UInt8.lt_trans h g)
      · exact Or.inl (g ▸ h)
    · rcases g with g | ⟨g, g2⟩
      · exact Or.inl (h ▸ g)
      · exact Or.inr ⟨h.trans g, bl_trans x y z h2 g2⟩
theorem bl_tri : ∀ x y : List UInt8, Op.bytesLess x y = false → Op.bytesLess y x = false → x = y
  | [], [], _, _ => rfl
  | _ :: _, [], _, h => by cases h
  | [], _ :: _, h, _ => by cases h
  | a :: x, b :: y, h, g => by
    rw [Op.bytesLess, Bool.or_eq_false_iff, decide_eq_false_iff_not] at h g
    have e : a = b := UInt8.le_antisymm (UInt8.not_lt.mp g.1) (UInt8.not_lt.mp h.1)
    subst e
    have h2 := h.2
    have g2 := g.2
    rw [beq_self_eq_true, Bool.true_and] at h2 g2
    rw [bl_tri x y h2 g2]
theorem my_toList_inj {a b : ByteArray} (h : a.toList = b.toList) : a = b := by
  rw [ByteArray.toList_eq, ByteArray.toList_eq] at h
  exact Go.WideShapes.bytes_inj h
theorem cmpT_lt (a b : ByteArray) : cmpT a b < 0 ↔ Op.bytesLess a.toList b.toList = true := by
  unfold cmpT
  cases h1 : Op.bytesLess a.toList b.toList
  · cases h2 : (a.toList == b.toList) <;> simp
  · simp
theorem cmpT_anti (a b : ByteArray) : cmpT b a = - cmpT a b := by
  unfold cmpT
  cases h : Op.bytesLess a.toList b.toList
  · cases g : Op.bytesLess b.toList a.toList
    · have e := bl_tri _ _ h g
      rw [e]
      simp
    · have e : (a.toList == b.toList) = false := by
        cases h2 : (a.toList == b.toList)
        · rfl
        · rw [beq_iff_eq.mp h2, bl_irrefl] at g; cases g
      rw [e]
      simp
  · have e : (b.toList == a.toList) = false := by
      cases h2 : (b.toList == a.toList)
      · rfl
      · rw [beq_iff_eq.mp h2, bl_irrefl] at h; cases h
    rw [bl_asymm _ _ h, e]
    simp
theorem cmpT_zero (a b : ByteArray) : cmpT a b = 0 ↔ a = b := by
  unfold cmpT
  constructor
  · intro h
    cases h1 : Op.bytesLess a.toList b.toList
    · cases h2 : (a.toList == b.toList)
      · rw [h1, h2] at h; simp at h
      · exact my_toList_inj (beq_iff_eq.mp h2)
    · rw [h1] at h; simp at h
  · rintro rfl
    rw [bl_irrefl]; simp
theorem cmpT_trans (a b c : ByteArray) (h : cmpT a b < 0) (g : cmpT b c < 0) : cmpT a c < 0 := by
  rw [cmpT_lt] at h g ⊢
  exact bl_trans _ _ _ h g
theorem cmp1_anti (x y : Lbl) : cmp1 y x = - cmp1 x y := by
  unfold cmp1
  rw [cmpT_anti x.f0 y.f0, cmpT_anti x.f1 y.f1]
  by_cases h : cmpT x.f0 y.f0 = 0
  · rw [if_pos h, if_pos (by omega)]
  · rw [if_neg h, if_neg (by omega)]
theorem cmp1_zero (x y : Lbl) : cmp1 x y = 0 ↔ x = y := by
  obtain ⟨a, b⟩ := x
  obtain ⟨c, d⟩ := y
  unfold cmp1
  constructor
  · intro h
    by_cases h0 : cmpT a c = 0
    · rw [if_pos h0] at h
      rw [(cmpT_zero a c).1 h0, (cmpT_zero b d).1 h]
    · rw [if_neg h0] at h
      exact absurd h h0
  · intro h
    injection h with h1 h2
    rw [if_pos ((cmpT_zero a c).2 h1)]
    exact (cmpT_zero b d).2 h2
theorem cmp1_trans (x y z : Lbl) (h : cmp1 x y < 0) (g : cmp1 y z < 0) : cmp1 x z < 0 := by
  unfold cmp1 at h g ⊢
  by_cases h0 : cmpT x.f0 y.f0 = 0
  · rw [if_pos h0] at h
    have e := (cmpT_zero _ _).1 h0
    rw [e]
    by_cases g0 : cmpT y.f0 z.f0 = 0
    · rw [if_pos g0] at g ⊢
      exact cmpT_trans _ _ _ h g
    · rw [if_neg g0] at g ⊢
      exact g
  · rw [if_neg h0] at h
    by_cases g0 : cmpT y.f0 z.f0 = 0
    · have e := (cmpT_zero _ _).1 g0
      rw [← e, if_neg h0]
      exact h
    · rw [if_neg g0] at g
      have t := cmpT_trans _ _ _ h g
      rw [if_neg (by omega)]
      exact t
theorem cmpL_anti : ∀ a b : List Lbl, cmpL b a = - cmpL a b
  | [], [] => rfl
  | [], _ :: _ => rfl
  | _ :: _, [] => rfl
  | x :: a, y :: b => by
    rw [cmpL, cmpL, cmp1_anti x y, cmpL_anti a b]
    by_cases h : cmp1 x y = 0
    · rw [if_pos h, if_pos (by omega)]
    · rw [if_neg h, if_neg (by omega)]
theorem cmpL_zero : ∀ a b : List Lbl, cmpL a b = 0 ↔ a = b
  | [], [] => by simp [cmpL]
  | [], _ :: _ => by simp [cmpL]
  | _ :: _, [] => by simp [cmpL]
  | x :: a, y :: b => by
    rw [cmpL]
    by_cases h : cmp1 x y = 0
    · rw [if_pos h, cmpL_zero a b, (cmp1_zero x y).1 h]; simp
    · rw [if_neg h]
      constructor
      · intro g; exact absurd g h
      · intro g
        injection g with g1 g2
        exact absurd ((cmp1_zero x y).2 g1) h
theorem cmpL_trans : ∀ a b c : List Lbl, cmpL a b ≤ 0 → cmpL b c ≤ 0 → cmpL a c ≤ 0
  | [], _, [], _, _ => by simp [cmpL]
  | [], _, _ :: _, _, _ => by simp [cmpL]
  | _ :: _, [], _, h, _ => by simp [cmpL] at h
  | _ :: _, _ :: _, [], _, g => by simp [cmpL] at g
  | x :: a, y :: b, z :: c, h, g => by
    rw [cmpL] at h g ⊢
    by_cases h0 : cmp1 x y = 0
    · rw [if_pos h0] at h
      rw [(cmp1_zero x y).1 h0]
      by_cases g0 : cmp1 y z = 0
      · rw [if_pos g0] at g ⊢
        exact cmpL_trans a b c h g
      · rw [if_neg g0] at g ⊢
        exact g
    · rw [if_neg h0] at h
      by_cases g0 : cmp1 y z = 0
      · rw [← (cmp1_zero y z).1 g0, if_neg h0]
        exact h
      · rw [if_neg g0] at g
        have t := cmp1_trans x y z (by omega) (by omega)
        rw [if_neg (by omega)]
        omega
theorem rdLb (l : List Lbl) {i : Nat} (h : i < l.length) : rd_T52 l (i : Int) = l[i] := by unfold rd_T52; rw [Int.toNat_natCast, getD_of h]
theorem spec_l3Texts_eq (a b : ByteArray) : spec_l3Texts.f a b = some (cmpT a b) := rfl
theorem spec_l3Cmp_ev (a b : List Lbl) (ha : a.length < 9223372036854775807) : Ev (fun k => spec_l3Cmp.f k a b) (cmpL a b) := by
  have key : ∀ i, i ≤ min a.length b.length → Ev (fun k => spec_l3Cmp.l0 k a b (i : Int)) (cmpL (a.drop i) (b.drop i)) := by
    refine from_index ?_ ?_
    · obtain ⟨m, hm⟩ : ∃ m, min a.length b.length = m := ⟨_, rfl⟩
      rw [hm]
      have fin : Ev (fun k => spec_l3Cmp.j1 k a b (m : Int) false) (cmpL (a.drop m) (b.drop m)) := by
        refine Ev.step (fun k => by rw [spec_l3Cmp.j1]) ?_
        refine Ev.ifn (by decide) ?_
        by_cases c1 : (a.length : Int) < (b.length : Int)
        · rw [cmpL_none a b m (by omega), decide_eq_true (show m < b.length by omega)]
          exact Ev.ifp c1 (Ev.some_ rfl)
        · refine Ev.ifn c1 ?_
          by_cases c2 : (a.length : Int) > (b.length : Int)
          · rw [cmpL_more a b m (by omega) (by omega)]
            exact Ev.ifp c2 (Ev.now _)
          · rw [cmpL_none a b m (by omega), decide_eq_false (show ¬ m < b.length by omega)]
            exact Ev.ifn c2 (Ev.some_ rfl)
      refine Ev.step (fun k => by rw [spec_l3Cmp.l0]) ?_
      by_cases c : (m : Int) < (a.length : Int)
      · rw [decide_eq_false (show ¬ (m : Int) < (b.length : Int) by omega)]
        exact Ev.ifp c fin
      · exact Ev.ifn c fin
    · intro i hi ih
      have hia : i < a.length := by omega
      have hib : i < b.length := by omega
      have st := cmpL_step a b a[i] i hia hib
      rw [getD_of hia, getD_of hib] at st
      rw [st]
      refine Ev.step (fun k => by rw [spec_l3Cmp.l0]) ?_
      rw [decide_eq_true (show (i : Int) < (b.length : Int) by omega)]
      refine Ev.ifp (by omega) ?_
      refine Ev.step (fun k => by rw [spec_l3Cmp.j1]) ?_
      rw [rdLb a hia, rdLb b hib, wrap_succ (show i < 9223372036854775807 by omega)]
      refine Ev.ifp rfl (Ev.ifp (by omega) (Ev.ifp (by omega) (Ev.ifp (by omega) (Ev.bind (Ev.const (spec_l3Texts_eq _ _)) ?_))))
      by_cases c1 : cmpT a[i].f0 b[i].f0 = 0
      · refine Ev.ifp c1 (Ev.bind (Ev.const (spec_l3Texts_eq _ _)) ?_)
        have e : cmp1 a[i] b[i] = cmpT a[i].f1 b[i].f1 := by unfold cmp1; rw [if_pos c1]
        rw [e]
        by_cases c2 : cmpT a[i].f1 b[i].f1 = 0
        · rw [if_pos c2]
          exact Ev.ifp c2 ih
        · rw [if_neg c2]
          exact Ev.ifn c2 (Ev.now _)
      · have e : cmp1 a[i] b[i] = cmpT a[i].f0 b[i].f0 := by unfold cmp1; rw [if_neg c1]
        rw [e, if_neg c1]
        exact Ev.ifn c1 (Ev.now _)
  unfold spec_l3Cmp.f
  have := key 0 (Nat.zero_le _)
  rw [List.drop_zero, List.drop_zero] at this
  exact this
theorem impl_cmpLabels_eq (a b : List Lbl) (ha : a.length < 9223372036854775807) (hb : b.length < 9223372036854775807) : impl_cmpLabels.f a b = some (cmpL a b) := by
  unfold impl_cmpLabels.f
  rw [if_pos ⟨ha, hb⟩]
def labelsCmpV (a b : List Lbl) : Int := if labelsB a = true then (if labelsB b = true then cmpL a b else 0) else 0
theorem spec_LabelsCmp_ev (a b : List Lbl) (ha : bdL a = true) (hb : bdL b = true) : Ev (fun k => spec_LabelsCmp.f k a b) (labelsCmpV a b) := by
  unfold spec_LabelsCmp.f labelsCmpV
  refine Ev.bind (Ev.const (spec_LabelsOk_eq a ha)) ?_
  cases labelsB a
  · exact Ev.ifn (by decide) (Ev.now _)
  refine Ev.ifp rfl (Ev.bind (Ev.const (spec_LabelsOk_eq b hb)) ?_)
  cases labelsB b
  · exact Ev.ifn (by decide) (Ev.now _)
  exact Ev.ifp rfl (Ev.bind (spec_l3Cmp_ev a b (bdL_len ha)) (Ev.now _))
theorem impl_LabelsCmp_eq (a b : List Lbl) (ha : bdL a = true) (hb : bdL b = true) : impl_LabelsCmp.f a b = some (labelsCmpV a b) := by
  unfold impl_LabelsCmp.f labelsCmpV
  rw [impl_LabelsOk_eq a ha]
  cases labelsB a
  · rfl
  rw [Option.bind_some, if_pos rfl, impl_LabelsOk_eq b hb, if_pos rfl]
  cases labelsB b
  · rfl
  rw [Option.bind_some, if_pos rfl, impl_cmpLabels_eq a b (bdL_len ha) (bdL_len hb), if_pos rfl]
  rfl
/-- bytes -/
def Bytes (b : List Int) : Prop := b.length ≤ 2000 ∧ ∀ x ∈ b, 0 ≤ x ∧ x ≤ 255
theorem rd_byte {b : List Int} (h : Bytes b) (i : Int) : 0 ≤ rd b i ∧ rd b i ≤ 255 := by
  unfold rd
  rw [List.getD_eq_getElem?_getD]
  cases e : b[i.toNat]? with
  | none => simp
  | some x => simpa using h.2 x (List.mem_of_getElem? e)
theorem xor_i64_range {a b : Int} (ha0 : 0 ≤ a) (ha : a < 4611686018427387904) (hb0 : 0 ≤ b) (hb : b < 4611686018427387904) : 0 ≤ Go.bits .xor .i64 a b := by
  obtain ⟨m, rfl⟩ := Int.eq_ofNat_of_zero_le ha0
  obtain ⟨n, rfl⟩ := Int.eq_ofNat_of_zero_le hb0
  have hx : m ^^^ n < 2 ^ 62 := Nat.xor_lt_two_pow (by omega) (by omega)
  have h1 : m % 2 ^ IntKind.i64.bits = m := Nat.mod_eq_of_lt (by simp [IntKind.bits]; omega)
  have h2 : n % 2 ^ IntKind.i64.bits = n := Nat.mod_eq_of_lt (by simp [IntKind.bits]; omega)
  simp only [Go.bits, BitVec.ofInt_natCast, BitVec.toNat_xor, BitVec.toNat_ofNat, h1, h2]
  rw [IntKind.wrap_i64]
  omega
theorem mix_range {u v k q : Int} (hu : 0 ≤ u ∧ u ≤ 255) (hv : 0 ≤ v ∧ v ≤ 255) (hk : 0 ≤ k ∧ k ≤ 1099511627776) (hq : 0 ≤ q ∧ q ≤ 1099511627776) :
    0 ≤ wrap64 ((wrap64 ((wrap64 ((wrap64 ((wrap64 u) * 131)) + (wrap64 ((wrap64 v) * 1117)))) + (wrap64 (k * 29)))) + (wrap64 ((wrap64 q) * 53))) ∧ wrap64 ((wrap64 ((wrap64 ((wrap64 ((wrap64 u) * 131)) + (wrap64 ((wrap64 v) * 1117)))) + (wrap64 (k * 29)))) + (wrap64 ((wrap64 q) * 53))) < 4611686018427387904 := by
  have e1 : wrap64 u = u := wrap_in (by omega) (by omega)
  have e2 : wrap64 v = v := wrap_in (by omega) (by omega)
  have e3 : wrap64 q = q := wrap_in (by omega) (by omega)
  rw [e1, e2, e3]
  clear e1 e2 e3
  have e4 : wrap64 (u * 131) = u * 131 := wrap_in (by omega) (by omega)
  have e5 : wrap64 (v * 1117) = v * 1117 := wrap_in (by omega) (by omega)
  have e6 : wrap64 (k * 29) = k * 29 := wrap_in (by omega) (by omega)
  have e7 : wrap64 (q * 53) = q * 53 := wrap_in (by omega) (by omega)
  rw [e4, e5, e6, e7]
  clear e4 e5 e6 e7
  have e8 : wrap64 (u * 131 + v * 1117) = u * 131 + v * 1117 := wrap_in (by omega) (by omega)
  rw [e8]
  clear e8
  have e9 : wrap64 (u * 131 + v * 1117 + k * 29) = u * 131 + v * 1117 + k * 29 := wrap_in (by omega) (by omega)
  rw [e9]
  clear e9
  have e10 : wrap64 (u * 131 + v * 1117 + k * 29 + q * 53) = u * 131 + v * 1117 + k * 29 + q * 53 := wrap_in (by omega) (by omega)
  rw [e10]
  clear e10
  omega
/-- A number is picked: it is below n, and the place is one on. -/
theorem pick_ev (b : List Int) (hb : Bytes b) (p n : Int) (hp0 : 0 ≤ p) (hp : p < 1099511627776) : ∃ v, Ev (fun k => spec_l1Rd_pick.f k b p n) (v, p + 1) ∧ 0 ≤ v ∧ (1 ≤ n → v < n) := by
  have hw : wrap64 (p + 1) = p + 1 := wrap_in (by omega) (by omega)
  have hw2 : wrap64 (p + 1 - 1) = p := (wrap_in (by omega) (by omega)).trans (by omega)
  by_cases hn : n < 1
  · refine ⟨0, ?_, by omega, by omega⟩
    unfold spec_l1Rd_pick.f
    refine Ev.ifp hn ?_
    refine Ev.step (fun k => by rw [spec_l1Rd_pick.j0]) ?_
    rw [hw]
    exact Ev.ifp rfl (Ev.now _)
  · by_cases hz : b.length = 0
    · refine ⟨0, ?_, by omega, by omega⟩
      unfold spec_l1Rd_pick.f
      refine Ev.ifn hn ?_
      refine Ev.step (fun k => by rw [spec_l1Rd_pick.j0]) ?_
      rw [hw]
      exact Ev.ifp (by rw [hz]; rfl) (Ev.now _)
    · have core : ∀ X : Int, 0 ≤ X → 0 ≤ Int.tmod X n ∧ Int.tmod X n < n := by
        intro X hX
        rw [Int.tmod_eq_emod_of_nonneg hX]
        exact ⟨Int.emod_nonneg _ (by omega), Int.emod_lt_of_pos _ (by omega)⟩
      have hn0 : ¬ n = 0 := by omega
      unfold spec_l1Rd_pick.f
      by_cases hlt : p < (b.length : Int)
      · have hr := rd_byte hb p
        have hwr : wrap64 (rd b p) = rd b p := wrap_in (by omega) (by omega)
        refine ⟨Int.tmod (rd b p) n, ?_, (core _ hr.1).1, fun _ => (core _ hr.1).2⟩
        refine Ev.ifn hn ?_
        refine Ev.step (fun k => by rw [spec_l1Rd_pick.j0]) ?_
        refine Ev.ifn (by simpa using hz) ?_
        rw [hw, hw2]
        refine Ev.ifp hlt (Ev.ifp hp0 (Ev.ifn hn0 ?_))
        rw [hwr]
        exact Ev.now _
      · have hlen : (b.length : Int) ≤ 2000 := by have := hb.1; omega
        have hi1 : 0 ≤ Int.tmod p (b.length : Int) ∧ Int.tmod p (b.length : Int) < (b.length : Int) := by
          rw [Int.tmod_eq_emod_of_nonneg hp0]
          exact ⟨Int.emod_nonneg _ (by omega), Int.emod_lt_of_pos _ (by omega)⟩
        have hj : wrap64 ((wrap64 (p * 7)) + 3) = p * 7 + 3 := by
          have : wrap64 (p * 7) = p * 7 := wrap_in (by omega) (by omega)
          rw [this]; exact wrap_in (by omega) (by omega)
        have hi2 : 0 ≤ Int.tmod (p * 7 + 3) (b.length : Int) ∧ Int.tmod (p * 7 + 3) (b.length : Int) < (b.length : Int) := by
          rw [Int.tmod_eq_emod_of_nonneg (by omega)]
          exact ⟨Int.emod_nonneg _ (by omega), Int.emod_lt_of_pos _ (by omega)⟩
        have hq : 0 ≤ Int.tdiv p (b.length : Int) ∧ Int.tdiv p (b.length : Int) ≤ 1099511627776 := by
          rw [Int.tdiv_eq_ediv_of_nonneg hp0]
          have h1 := Int.ediv_nonneg hp0 (show 0 ≤ (b.length : Int) by omega)
          have h2 := Int.ediv_le_self (b.length : Int) hp0
          omega
        have hA := mix_range (rd_byte hb (Int.tmod p (b.length : Int))) (rd_byte hb (Int.tmod (p * 7 + 3) (b.length : Int))) (k := p) ⟨hp0, by omega⟩ hq
        generalize hX : wrap64 ((wrap64 ((wrap64 ((wrap64 ((wrap64 (rd b (Int.tmod p (b.length : Int)))) * 131)) + (wrap64 ((wrap64 (rd b (Int.tmod (p * 7 + 3) (b.length : Int)))) * 1117)))) + (wrap64 (p * 29)))) + (wrap64 ((wrap64 (Int.tdiv p (b.length : Int))) * 53))) = X at hA
        have hY : 0 ≤ wrap64 (Int.tdiv X 64) ∧ wrap64 (Int.tdiv X 64) < 4611686018427387904 := by
          rw [Int.tdiv_eq_ediv_of_nonneg hA.1, wrap_in (by omega) (by omega)]; omega
        have hxor := xor_i64_range hA.1 hA.2 hY.1 hY.2
        refine ⟨Int.tmod (Go.bits .xor .i64 X (wrap64 (Int.tdiv X 64))) n, ?_, (core _ hxor).1, fun _ => (core _ hxor).2⟩
        refine Ev.ifn hn ?_
        refine Ev.step (fun k => by rw [spec_l1Rd_pick.j0]) ?_
        refine Ev.ifn (by simpa using hz) ?_
        rw [hw, hw2, hj]
        refine Ev.ifn hlt (Ev.ifn (by omega) (Ev.ifp hi1.1 (Ev.ifp hi1.2 (Ev.ifp hi2.1 (Ev.ifp hi2.2 (Ev.ifn hn0 ?_))))))
        rw [hX]
        exact Ev.now _
theorem open_eq (l : List Int) (hl : l.length ≤ maxLen) (h : ∀ x ∈ l, (Lit.int .u8 x).wf = true) : ∃ b, spec_l1Open.f l = some (b, 0) ∧ Bytes b := by
  have hw : ∀ x ∈ l, 0 ≤ x ∧ x ≤ 255 := fun x hx => wf_u8 (h x hx)
  unfold spec_l1Open.f
  by_cases c : (l.length : Int) > 2000
  · rw [if_pos c, if_pos (by omega)]
    exact ⟨_, rfl, by rw [List.length_take]; omega, fun x hx => hw x (List.mem_of_mem_take hx)⟩
  · rw [if_neg c]
    exact ⟨_, rfl, by omega, hw⟩
theorem of_ev (b : List Int) (hb : Bytes b) (p : Int) (hp0 : 0 ≤ p) (hp : p < 1099511627776) (l : List ByteArray) (hl : 0 < l.length) : ∃ v, Ev (fun k => spec_l1Rd_of.f k b p l) (v, p + 1) ∧ v ∈ l := by
  obtain ⟨i, he, h0, h1⟩ := pick_ev b hb p (l.length : Int) hp0 hp
  have h1' := h1 (by omega)
  refine ⟨rdOf ByteArray.empty l i, ?_, ?_⟩
  · unfold spec_l1Rd_of.f
    refine Ev.bind he ?_
    exact Ev.ifp h0 (Ev.ifp h1' (Ev.now _))
  · unfold rdOf
    rw [getD_of (show i.toNat < l.length by omega)]
    exact List.getElem_mem _
def LblS (x : Lbl) : Prop := x.f0.size ≤ 40 ∧ x.f1.size ≤ 20 ∧ x.f0.data.toList.head? ≠ some 110
theorem many_ev : ∀ (m n : Nat) (s o : ByteArray), n ≤ m → n ≤ 1000 → o.size + s.size * n ≤ 1000000 → ∃ r, Ev (fun k => spec_l1Many.l0 k s (n : Int) o) r ∧ r.size = o.size + s.size * n
  | m, 0, s, o, _, _, _ => by
    refine ⟨o, ?_, by simp⟩
    refine Ev.step (fun k => by rw [spec_l1Many.l0]) ?_
    exact Ev.ifn (by simp) (Ev.now _)
  | 0, n + 1, s, o, h, _, _ => by omega
  | m + 1, n + 1, s, o, h, hn, hs => by
    have e1 : Int.tmod ((n + 1 : Nat) : Int) 2 = (((n + 1) % 2 : Nat) : Int) := by rw [Int.tmod_eq_emod_of_nonneg (by omega)]; omega
    have e2 : wrap64 (Int.tdiv ((n + 1 : Nat) : Int) 2) = (((n + 1) / 2 : Nat) : Int) := by rw [Int.tdiv_eq_ediv_of_nonneg (by omega), wrap_in (by omega) (by omega)]; omega
    have hss : s.size ≤ s.size * (n + 1) := Nat.le_mul_of_pos_right _ (by omega)
    have hdouble : (s ++ s).size = s.size + s.size := ByteArray.size_append
    have hpart : (s.size + s.size) * ((n + 1) / 2) + s.size * ((n + 1) % 2) = s.size * (n + 1) := by
      have h1 : n + 1 = 2 * ((n + 1) / 2) + (n + 1) % 2 := by omega
      conv => rhs; rw [h1]
      rw [Nat.mul_add, ← Nat.mul_assoc, Nat.mul_comm s.size 2, Nat.two_mul]
    by_cases c : (n + 1) % 2 = 1
    · have ho2 : (o ++ s).size = o.size + s.size := ByteArray.size_append
      rw [c, Nat.mul_one] at hpart
      obtain ⟨r, er, hr⟩ := many_ev m ((n + 1) / 2) (s ++ s) (o ++ s) (by omega) (by omega) (by rw [hdouble, ho2]; omega)
      refine ⟨r, ?_, by rw [hr, hdouble, ho2]; omega⟩
      refine Ev.step (fun k => by rw [spec_l1Many.l0]) ?_
      rw [e1, e2]
      exact Ev.ifp (by omega) (Ev.ifp (by omega) (Ev.ifp (by omega) (Ev.ifp (by omega) er)))
    · rw [show (n + 1) % 2 = 0 by omega, Nat.mul_zero] at hpart
      obtain ⟨r, er, hr⟩ := many_ev m ((n + 1) / 2) (s ++ s) o (by omega) (by omega) (by rw [hdouble]; omega)
      refine ⟨r, ?_, by rw [hr, hdouble]; omega⟩
      refine Ev.step (fun k => by rw [spec_l1Many.l0]) ?_
      rw [e1, e2]
      exact Ev.ifp (by omega) (Ev.ifn (by omega) (Ev.ifp (by omega) er))
theorem lbls_snoc {x : List Lbl} (h : ∀ y ∈ x, LblS y) {z : Lbl} (hz : LblS z) : ∀ y ∈ x ++ [z], LblS y := fun y hy => by
  rcases List.mem_append.1 hy with hy | hy
  · exact h y hy
  · rw [List.mem_singleton.1 hy]; exact hz
theorem lbls_set {x : List Lbl} (h : ∀ y ∈ x, LblS y) {z : Lbl} (hz : LblS z) (i : Nat) : ∀ y ∈ x.set i z, LblS y := fun y hy => by
  rcases List.mem_or_eq_of_mem_set hy with hy | hy
  · exact h y hy
  · rw [hy]; exact hz
def nms3 : List ByteArray := [(⟨#[97, 112, 112]⟩ : ByteArray), (⟨#[104, 111, 115, 116]⟩ : ByteArray), (⟨#[122, 111, 110, 101]⟩ : ByteArray)]
theorem head_mem {l : List ByteArray} (h : l.all (fun s => s.data.toList.head? != some 110) = true) {x : ByteArray} (hx : x ∈ l) : x.data.toList.head? ≠ some 110 := bne_iff_ne.mp (List.all_eq_true.1 h x hx)
theorem size_mem {l : List ByteArray} {n : Nat} (h : l.all (fun s => decide (s.size ≤ n)) = true) {x : ByteArray} (hx : x ∈ l) : x.size ≤ n := of_decide_eq_true (List.all_eq_true.1 h x hx)
theorem nms3_size (i : Nat) : (rdOf ByteArray.empty nms3 (i : Int)).size ≤ 4 ∧ (rdOf ByteArray.empty nms3 (i : Int)).data.toList.head? ≠ some 110 := by
  unfold rdOf nms3
  rw [Int.toNat_natCast]
  match i with
  | 0 => exact ⟨by decide, by decide⟩
  | 1 => exact ⟨by decide, by decide⟩
  | 2 => exact ⟨by decide, by decide⟩
  | i + 3 => exact ⟨by simp, by simp⟩
theorem l13Labels_l0 (b : List Int) (hb : Bytes b) : ∀ (d : Nat) (x : List Lbl) (p : Int), d ≤ 3 → x.length + d ≤ 3 → (∀ y ∈ x, LblS y) → 0 ≤ p → p + 4 * d ≤ 900000 → ∃ L q, Ev (fun k => spec_l13Labels.l0 k x nms3 3 ((3 - d : Nat) : Int) b p) (L, q) ∧ 1 ≤ L.length ∧ L.length ≤ 3 ∧ (∀ y ∈ L, LblS y) ∧ p ≤ q ∧ q ≤ p + 4 * d
  | 0, x, p, hd, hx, hl, h0, h1 => by
    by_cases c : (x.length : Int) = 0
    · refine ⟨x ++ [(⟨(⟨#[106, 111, 98]⟩ : ByteArray), (⟨#[120]⟩ : ByteArray)⟩ : Lbl)], p, ?_, by simp, by simp; omega, lbls_snoc hl ⟨by decide, by decide, by decide⟩, by omega, by omega⟩
      refine Ev.step (fun k => by rw [spec_l13Labels.l0]) ?_
      exact Ev.ifn (by simp) (Ev.ifp c (Ev.ifp (by omega) (Ev.now _)))
    · refine ⟨x, p, ?_, by omega, by omega, hl, by omega, by omega⟩
      refine Ev.step (fun k => by rw [spec_l13Labels.l0]) ?_
      exact Ev.ifn (by simp) (Ev.ifn c (Ev.now _))
  | d + 1, x, p, hd, hx, hl, h0, h1 => by
    obtain ⟨v, e, v0, v1⟩ := pick_ev b hb p 3 h0 (by omega)
    have hw : wrap64 (((3 - (d + 1) : Nat) : Int) + 1) = ((3 - d : Nat) : Int) := (wrap_in (by omega) (by omega)).trans (by omega)
    have hn := nms3_size (3 - (d + 1))
    have app : ∀ p', 0 ≤ p' → p' ≤ p + 2 → ∃ L q, Ev (fun k => (spec_l1Rd_of.f k b p' (([(⟨#[97]⟩ : ByteArray), (⟨#[97, 98]⟩ : ByteArray), (⟨#[98]⟩ : ByteArray), (⟨#[97]⟩ : ByteArray), (⟨#[97]⟩ : ByteArray)] : List ByteArray))).bind fun bt125 => (if x.length < 4398046511104 then (spec_l13Labels.l0 k (x ++ [(⟨rdOf ByteArray.empty nms3 ((3 - (d + 1) : Nat) : Int), bt125.1⟩ : Lbl)]) nms3 3 (wrap64 (((3 - (d + 1) : Nat) : Int) + 1)) b bt125.2) else (none))) (L, q) ∧ 1 ≤ L.length ∧ L.length ≤ 3 ∧ (∀ y ∈ L, LblS y) ∧ p' ≤ q ∧ q ≤ p' + 1 + 4 * d := by
      intro p' h0' h1'
      obtain ⟨w, ew, hw'⟩ := of_ev b hb p' h0' (by omega) [(⟨#[97]⟩ : ByteArray), (⟨#[97, 98]⟩ : ByteArray), (⟨#[98]⟩ : ByteArray), (⟨#[97]⟩ : ByteArray), (⟨#[97]⟩ : ByteArray)] (by simp)
      have hws := size_mem (n := 2) (by decide) hw'
      obtain ⟨L, q, e2, hL1, hL, hS, hq0, hq1⟩ := l13Labels_l0 b hb d (x ++ [(⟨rdOf ByteArray.empty nms3 ((3 - (d + 1) : Nat) : Int), w⟩ : Lbl)]) (p' + 1) (by omega) (by rw [List.length_append]; simp only [List.length_cons, List.length_nil]; omega) (lbls_snoc hl ⟨by show (rdOf ByteArray.empty nms3 _).size ≤ 40; omega, by show w.size ≤ 20; omega, hn.2⟩) (by omega) (by omega)
      refine ⟨L, q, ?_, hL1, hL, hS, by omega, by omega⟩
      rw [hw]
      exact Ev.bind ew (Ev.ifp (by omega) e2)
    have skip : ∀ p', 0 ≤ p' → p' ≤ p + 2 → ∃ L q, Ev (fun k => spec_l13Labels.l0 k x nms3 3 (wrap64 (((3 - (d + 1) : Nat) : Int) + 1)) b p') (L, q) ∧ 1 ≤ L.length ∧ L.length ≤ 3 ∧ (∀ y ∈ L, LblS y) ∧ p' ≤ q ∧ q ≤ p' + 4 * d := by
      intro p' h0' h1'
      rw [hw]
      obtain ⟨L, q, e2, hL1, hL, hS, hq0, hq1⟩ := l13Labels_l0 b hb d x p' (by omega) (by omega) hl h0' (by omega)
      exact ⟨L, q, e2, hL1, hL, hS, hq0, hq1⟩
    by_cases c : v = 0
    · obtain ⟨L, q, e2, hL1, hL, hS, hq0, hq1⟩ := app (p + 1) (by omega) (by omega)
      refine ⟨L, q, ?_, hL1, hL, hS, by omega, by omega⟩
      refine Ev.step (fun k => by rw [spec_l13Labels.l0]) ?_
      exact Ev.ifp (by omega) (Ev.ifp (by omega) (Ev.ifp (by show _ < ((3 : Nat) : Int); omega) (Ev.bind e (Ev.ifp c e2))))
    · by_cases c2 : (rdOf ByteArray.empty nms3 ((3 - (d + 1) : Nat) : Int)).toList = ([97, 112, 112] : List UInt8)
      · obtain ⟨u, e', u0, u1⟩ := pick_ev b hb (p + 1) 4 (by omega) (by omega)
        by_cases c3 : u > 0
        · obtain ⟨L, q, e2, hL1, hL, hS, hq0, hq1⟩ := app (p + 1 + 1) (by omega) (by omega)
          refine ⟨L, q, ?_, hL1, hL, hS, by omega, by omega⟩
          refine Ev.step (fun k => by rw [spec_l13Labels.l0]) ?_
          exact Ev.ifp (by omega) (Ev.ifp (by omega) (Ev.ifp (by show _ < ((3 : Nat) : Int); omega) (Ev.bind e (Ev.ifn c (Ev.ifp c2 (Ev.bind e' (Ev.ifp c3 e2)))))))
        · obtain ⟨L, q, e2, hL1, hL, hS, hq0, hq1⟩ := skip (p + 1 + 1) (by omega) (by omega)
          refine ⟨L, q, ?_, hL1, hL, hS, by omega, by omega⟩
          refine Ev.step (fun k => by rw [spec_l13Labels.l0]) ?_
          exact Ev.ifp (by omega) (Ev.ifp (by omega) (Ev.ifp (by show _ < ((3 : Nat) : Int); omega) (Ev.bind e (Ev.ifn c (Ev.ifp c2 (Ev.bind e' (Ev.ifn c3 e2)))))))
      · obtain ⟨L, q, e2, hL1, hL, hS, hq0, hq1⟩ := skip (p + 1) (by omega) (by omega)
        refine ⟨L, q, ?_, hL1, hL, hS, by omega, by omega⟩
        refine Ev.step (fun k => by rw [spec_l13Labels.l0]) ?_
        exact Ev.ifp (by omega) (Ev.ifp (by omega) (Ev.ifp (by show _ < ((3 : Nat) : Int); omega) (Ev.bind e (Ev.ifn c (Ev.ifn c2 e2)))))
theorem l13Labels_ev (b : List Int) (hb : Bytes b) (p : Int) (h0 : 0 ≤ p) (h1 : p ≤ 800000) : ∃ L q, Ev (fun k => spec_l13Labels.f k b p) (L, q) ∧ 1 ≤ L.length ∧ L.length ≤ 3 ∧ (∀ y ∈ L, LblS y) ∧ p ≤ q ∧ q ≤ p + 12 := by
  obtain ⟨L, q, e, hL1, hL, hS, hq0, hq1⟩ := l13Labels_l0 b hb 3 [] p (by omega) (by simp) (fun y hy => by cases hy) h0 (by omega)
  refine ⟨L, q, ?_, hL1, hL, hS, hq0, by omega⟩
  unfold spec_l13Labels.f
  exact Ev.bind (Ev.some_ rfl) e
theorem l13AnyLabels_l0 (b : List Int) (hb : Bytes b) : ∀ (d : Nat) (x : List Lbl) (p : Int), 5 ≤ x.length + d → x.length ≤ 5 → d ≤ 5 → (∀ y ∈ x, LblS y) → 0 ≤ p → p + d ≤ 1000000 → ∃ L q, Ev (fun k => spec_l13AnyLabels.l0 k x b p) (L, q) ∧ L.length ≤ 5 ∧ (∀ y ∈ L, LblS y) ∧ p ≤ q ∧ q ≤ p + d + 1
  | d, x, p, hd, h5, hd5, hl, h0, h1 => by
    obtain ⟨v, e, v0, v1⟩ := pick_ev b hb p 2 h0 (by omega)
    have v1 := v1 (by omega)
    have hw : wrap64 (4 + v) = 4 + v := wrap_in (by omega) (by omega)
    by_cases c : (x.length : Int) < 4 + v
    · match d, hd, hd5, h1 with
      | 0, hd, hd5, h1 => omega
      | d + 1, hd, hd5, h1 =>
        obtain ⟨t, et, ht⟩ := many_ev x.length x.length (⟨#[122]⟩ : ByteArray) (⟨#[]⟩ : ByteArray) (Nat.le_refl _) (by omega) (by show 0 + 1 * x.length ≤ 1000000; omega)
        have ht' : t.size = 0 + 1 * x.length := ht
        have hz : ((⟨#[122]⟩ : ByteArray) ++ t).size = 1 + t.size := ByteArray.size_append
        obtain ⟨L, q, e2, hL, hS, hq0, hq1⟩ := l13AnyLabels_l0 b hb d (x ++ [(⟨(⟨#[122]⟩ : ByteArray) ++ t, (⟨#[119]⟩ : ByteArray)⟩ : Lbl)]) (p + 1) (by rw [List.length_append]; simp only [List.length_cons, List.length_nil]; omega) (by rw [List.length_append]; simp only [List.length_cons, List.length_nil]; omega) (by omega) (lbls_snoc hl ⟨by show ((⟨#[122]⟩ : ByteArray) ++ t).size ≤ 40; omega, by show (1 : Nat) ≤ 20; omega, by show ((⟨#[122]⟩ : ByteArray) ++ t).data.toList.head? ≠ some 110; rw [ByteArray.data_append, Array.toList_append]; exact fun h_ => by cases h_⟩) (by omega) (by omega)
        refine ⟨L, q, ?_, hL, hS, by omega, by omega⟩
        refine Ev.step (fun k => by rw [spec_l13AnyLabels.l0]) ?_
        refine Ev.bind e ?_
        rw [hw]
        refine Ev.ifp c (Ev.bind (show Ev (fun k => spec_l1Many.f k (⟨#[122]⟩ : ByteArray) (x.length : Int)) t from et) ?_)
        exact Ev.ifp (by omega) (Ev.ifp (by omega) e2)
    · refine ⟨x, p + 1, ?_, h5, hl, by omega, by omega⟩
      refine Ev.step (fun k => by rw [spec_l13AnyLabels.l0]) ?_
      refine Ev.bind e ?_
      rw [hw]
      exact Ev.ifn c (Ev.now _)
theorem lblS_rd {l : List Lbl} (h : ∀ y ∈ l, LblS y) {i : Int} (h0 : 0 ≤ i) (h1 : i < (l.length : Int)) : LblS (rd_T52 l i) := by
  unfold rd_T52
  rw [getD_of (show i.toNat < l.length by omega)]
  exact h _ (List.getElem_mem _)
theorem l13AnyLabels_ev (b : List Int) (hb : Bytes b) (p : Int) (h0 : 0 ≤ p) (h1 : p ≤ 700000) : ∃ L q, Ev (fun k => spec_l13AnyLabels.f k b p) (L, q) ∧ L.length ≤ 5 ∧ (∀ y ∈ L, LblS y) ∧ p ≤ q ∧ q ≤ p + 30 := by
  obtain ⟨x, q, e, hx1, hx, hS, hq0, hq1⟩ := l13Labels_ev b hb p h0 (by omega)
  obtain ⟨i, ei, i0, i1⟩ := pick_ev b hb q (x.length : Int) (by omega) (by omega)
  have i1 := i1 (by omega)
  obtain ⟨v, ev, v0, v1⟩ := pick_ev b hb (q + 1) 16 (by omega) (by omega)
  unfold spec_l13AnyLabels.f
  by_cases c0 : v = 0
  · obtain ⟨w, ew, hw⟩ := of_ev b hb (q + 1 + 1) (by omega) (by omega) [(⟨#[]⟩ : ByteArray), (⟨#[65]⟩ : ByteArray), (⟨#[116, 111, 111, 108, 111, 110, 103]⟩ : ByteArray), (⟨#[122, 122]⟩ : ByteArray)] (by simp)
    have hws := size_mem (n := 7) (by decide) hw
    have hhd : w.data.toList.head? ≠ some 110 := head_mem (by decide) hw
    exact ⟨x.set (i : Int).toNat (⟨w, (rd_T52 x i).f1⟩ : Lbl), q + 1 + 1 + 1, Ev.bind e (Ev.bind ei (Ev.bind ev (Ev.ifp c0 (Ev.bind ew (Ev.ifp i0 (Ev.ifp i1 (Ev.now _))))))), by simp only [List.length_set]; omega, lbls_set hS (z := ⟨w, (rd_T52 x i).f1⟩) ⟨by show w.size ≤ 40; omega, (lblS_rd hS i0 i1).2.1, hhd⟩ _, by omega, by omega⟩
  by_cases c1 : v = 1
  · obtain ⟨w, ew, hw⟩ := of_ev b hb (q + 1 + 1) (by omega) (by omega) [(⟨#[]⟩ : ByteArray), (⟨#[120, 49]⟩ : ByteArray), (⟨#[110, 105, 110, 101, 99, 104, 97, 114, 115]⟩ : ByteArray), (⟨#[101, 105, 103, 104, 116, 99, 104, 114]⟩ : ByteArray)] (by simp)
    have hws := size_mem (n := 9) (by decide) hw
    exact ⟨x.set (i : Int).toNat (⟨(rd_T52 x i).f0, w⟩ : Lbl), q + 1 + 1 + 1, Ev.bind e (Ev.bind ei (Ev.bind ev (Ev.ifn c0 (Ev.ifp c1 (Ev.bind ew (Ev.ifp i0 (Ev.ifp i1 (Ev.now _)))))))), by simp only [List.length_set]; omega, lbls_set hS (z := ⟨(rd_T52 x i).f0, w⟩) ⟨(lblS_rd hS i0 i1).1, by show w.size ≤ 20; omega, (lblS_rd hS i0 i1).2.2⟩ _, by omega, by omega⟩
  by_cases c2 : v = 2
  · exact ⟨_, _, Ev.bind e (Ev.bind ei (Ev.bind ev (Ev.ifn c0 (Ev.ifn c1 (Ev.ifp c2 (Ev.now _)))))), by simp, fun y hy => by simp at hy, by simp only; omega, by simp only; omega⟩
  by_cases c3 : v = 3
  · obtain ⟨L, q2, e2, hL, hS2, g0, g1⟩ := l13AnyLabels_l0 b hb 5 x (q + 1 + 1) (by omega) (by omega) (by omega) hS (by omega) (by omega)
    exact ⟨L, q2, Ev.bind e (Ev.bind ei (Ev.bind ev (Ev.ifn c0 (Ev.ifn c1 (Ev.ifn c2 (Ev.ifp c3 e2)))))), hL, hS2, by omega, by omega⟩
  · exact ⟨x, _, Ev.bind e (Ev.bind ei (Ev.bind ev (Ev.ifn c0 (Ev.ifn c1 (Ev.ifn c2 (Ev.ifn c3 (Ev.now _))))))), by omega, hS, by simp only; omega, by simp only; omega⟩
theorem bdL_small {l : List Lbl} (hl : l.length ≤ 1000) (h : ∀ y ∈ l, LblS y) : bdL l = true := by
  unfold bdL
  rw [decide_eq_true (show l.length < 9223372036854775807 by omega), Bool.true_and]
  refine List.all_eq_true.2 fun x hx => ?_
  obtain ⟨h0, h1, _⟩ := h x hx
  simp only [bdS, decide_eq_true (show x.f0.size < 9223372036854775807 by omega), decide_eq_true (show x.f1.size < 9223372036854775807 by omega), Bool.and_self]

theorem lbl_ext {x y : Lbl} (h0 : x.f0 = y.f0) (h1 : x.f1 = y.f1) : x = y := by
  cases x
  cases y
  simp only at h0 h1
  rw [h0, h1]
theorem alLabels_ev (a b : List Lbl) (ha : a.length < 9223372036854775807) : Ev (fun k => laws_alLabels.f k a b) (cmpL a b == 0) := by
  unfold laws_alLabels.f
  by_cases c : (a.length : Int) = (b.length : Int)
  · refine Ev.ifp c ?_
    have key : ∀ i, i ≤ a.length → Ev (fun k => laws_alLabels.l0 k a b (i : Int)) (cmpL (a.drop i) (b.drop i) == 0) := by
      refine from_index ?_ ?_
      · refine Ev.step (fun k => by rw [laws_alLabels.l0]) ?_
        refine Ev.ifn (by omega) (Ev.some_ ?_)
        rw [List.drop_length, List.drop_eq_nil_of_le (by omega)]; rfl
      · intro i hi ih
        have hib : i < b.length := by omega
        have st := cmpL_step a b a[i] i hi hib
        rw [getD_of hi, getD_of hib] at st
        refine Ev.step (fun k => by rw [laws_alLabels.l0]) ?_
        rw [rdLb a hi, rdLb b hib, wrap_succ (show i < 9223372036854775807 by omega), st]
        refine Ev.ifp (by omega) (Ev.ifp (by omega) (Ev.ifp (by omega) ?_))
        by_cases e : a[i] = b[i]
        · rw [if_pos ((cmp1_zero _ _).2 e), e, beq_self_eq_true, beq_self_eq_true]
          exact Ev.ifn (by decide) ih
        · have ne := fun h => e ((cmp1_zero _ _).1 h)
          rw [if_neg ne, beq_eq_false_iff_ne.mpr ne]
          refine Ev.ifp ?_ (Ev.now _)
          rw [Bool.or_eq_true, Bool.not_eq_true', Bool.not_eq_true', beq_eq_false_iff_ne, beq_eq_false_iff_ne]
          by_cases e0 : a[i].f0 = b[i].f0
          · exact Or.inr fun h => e (lbl_ext e0 (my_toList_inj h))
          · exact Or.inl fun h => e0 (my_toList_inj h)
    have := key 0 (Nat.zero_le _)
    rw [List.drop_zero, List.drop_zero] at this
    exact this
  · rw [beq_eq_false_iff_ne.mpr (fun h => c (by rw [(cmpL_zero a b).1 h]))]
    exact Ev.ifn c (Ev.now _)
theorem DrawLabelsCmp_ev (l : List Int) (hl : l.length ≤ maxLen) (h : ∀ x ∈ l, (Lit.int .u8 x).wf = true) : ∃ a b, Ev (fun k => spec_DrawLabelsCmp.f k l) (a, b) ∧ a.length ≤ 5 ∧ (∀ y ∈ a, LblS y) ∧ b.length ≤ 5 ∧ (∀ y ∈ b, LblS y) := by
  obtain ⟨c, hc, hC⟩ := open_eq l hl h
  obtain ⟨a, q, e1, ha, hA, h0, h1⟩ := l13AnyLabels_ev c hC 0 (by omega) (by omega)
  obtain ⟨v, e2, v0, v1⟩ := pick_ev c hC q 4 (by omega) (by omega)
  by_cases c0 : v = 0
  · refine ⟨a, [] ++ a, ?_, ha, hA, by rw [List.nil_append]; exact ha, by rw [List.nil_append]; exact hA⟩
    unfold spec_DrawLabelsCmp.f
    rw [hc]
    simp only [Option.bind_some]
    exact Ev.bind e1 (Ev.bind e2 (Ev.ifp c0 (Ev.ifp (by simp; omega) (Ev.now _))))
  · obtain ⟨b, q2, e3, hb, hB, _, _⟩ := l13AnyLabels_ev c hC (q + 1) (by omega) (by omega)
    refine ⟨a, b, ?_, ha, hA, hb, hB⟩
    unfold spec_DrawLabelsCmp.f
    rw [hc]
    simp only [Option.bind_some]
    exact Ev.bind e1 (Ev.bind e2 (Ev.ifn c0 (Ev.bind e3 (Ev.now _))))
theorem cmpL_range : ∀ a b : List Lbl, -1 ≤ cmpL a b ∧ cmpL a b ≤ 1
  | [], [] => by simp [cmpL]
  | [], _ :: _ => by simp [cmpL]
  | _ :: _, [] => by simp [cmpL]
  | x :: a, y :: b => by
    rw [cmpL]
    split
    · exact cmpL_range a b
    · exact cmp1_range x y
theorem labelsCmp_anti (a b : List Lbl) : labelsCmpV b a = - labelsCmpV a b ∧ -1 ≤ labelsCmpV a b ∧ labelsCmpV a b ≤ 1 := by
  unfold labelsCmpV
  cases labelsB a <;> cases labelsB b
  · simp
  · simp
  · simp
  · exact ⟨cmpL_anti a b, cmpL_range a b⟩
theorem FnLabelsCmp : laws_FnLabelsCmp.Pure := by
  intro l0 l1 hl0 _ h0 hl1 _ h1
  apply Ev.rounds
  unfold laws_FnLabelsCmp.f
  have out : Ev (fun k => laws_FnLabelsCmp.j0 k l0 l1 true) true := by
    refine Ev.step (fun k => by rw [laws_FnLabelsCmp.j0]) ?_
    exact Ev.ifp rfl (Ev.now _)
  by_cases c0 : (l0.length : Int) > 1048576
  · exact Ev.ifp c0 out
  refine Ev.ifn c0 ?_
  by_cases c1 : (l1.length : Int) > 1048576
  · rw [decide_eq_true c1]; exact out
  rw [decide_eq_false c1]
  refine Ev.step (fun k => by rw [laws_FnLabelsCmp.j0]) ?_
  refine Ev.ifn (by decide) ?_
  obtain ⟨a, b, D, hal, ha, hbl, hb⟩ := DrawLabelsCmp_ev l0 hl0 h0
  obtain ⟨c, d, D2, hcl, hc, _, _⟩ := DrawLabelsCmp_ev l1 hl1 h1
  have ba := bdL_small (l := a) (by omega) ha
  have bb := bdL_small (l := b) (by omega) hb
  have bc := bdL_small (l := c) (by omega) hc
  obtain ⟨an, r0, r1⟩ := labelsCmp_anti a b
  have hw : wrap64 (- labelsCmpV a b) = labelsCmpV b a := by rw [wrap_in (by omega) (by omega), an]
  have AL := alLabels_ev a b (by omega)
  refine Ev.bind D (Ev.bind (Ev.const (impl_LabelsCmp_eq a b ba bb)) (Ev.bind (spec_LabelsCmp_ev a b ba bb) (Ev.ifp rfl (Ev.bind (Ev.const (impl_LabelsCmp_eq b a bb ba)) (Ev.ifp hw.symm (Ev.bind (Ev.const (spec_LabelsOk_eq a ba)) ?_))))))
  have one : Ev (fun k => laws_FnLabelsCmp.j1 k l1 a b (labelsCmpV a b) true) true := by
    refine Ev.step (fun k => by rw [laws_FnLabelsCmp.j1]) ?_
    refine Ev.ifp rfl (Ev.bind (spec_LabelsCmp_ev a b ba bb) (Ev.ifp rfl (Ev.bind (Ev.const (impl_LabelsCmp_eq b a bb ba)) (Ev.some_ ?_))))
    rw [hw, beq_self_eq_true]
  cases ca : labelsB a
  · exact Ev.ifn (by decide) one
  refine Ev.ifp rfl (Ev.bind (Ev.const (spec_LabelsOk_eq b bb)) ?_)
  cases cb : labelsB b
  · exact one
  have eab : labelsCmpV a b = cmpL a b := by unfold labelsCmpV; rw [ca, cb]; rfl
  rw [eab]
  have two : Ev (fun k => laws_FnLabelsCmp.j2 k a b (cmpL a b) c true) true := by
    refine Ev.step (fun k => by rw [laws_FnLabelsCmp.j2]) ?_
    refine Ev.ifp rfl (Ev.bind AL (Ev.some_ ?_))
    rw [beq_self_eq_true]
  refine Ev.step (fun k => by rw [laws_FnLabelsCmp.j1]) ?_
  refine Ev.ifn (by decide) (Ev.bind D2 (Ev.bind AL (Ev.ifn (by simp) (Ev.bind (Ev.const (spec_LabelsOk_eq c bc)) ?_))))
  cases cc : labelsB c
  · exact Ev.ifn (by decide) two
  refine Ev.ifp rfl ?_
  by_cases k0 : cmpL a b > 0
  · exact Ev.ifp k0 two
  refine Ev.ifn k0 (Ev.bind (Ev.const (impl_LabelsCmp_eq b c bb bc)) ?_)
  have ebc : labelsCmpV b c = cmpL b c := by unfold labelsCmpV; rw [cb, cc]; rfl
  rw [ebc]
  by_cases k1 : cmpL b c > 0
  · rw [decide_eq_true k1]; exact two
  · rw [decide_eq_false k1]
    refine Ev.step (fun k => by rw [laws_FnLabelsCmp.j2]) ?_
    refine Ev.ifn (by decide) (Ev.bind (Ev.const (impl_LabelsCmp_eq a c ba bc)) (Ev.some_ ?_))
    have eac : labelsCmpV a c = cmpL a c := by unfold labelsCmpV; rw [ca, cc]; rfl
    rw [eac]
    exact decide_eq_true (cmpL_trans a b c (by omega) (by omega))

end Go.Proofs.Ytipbllegjcedgaa.Pure
