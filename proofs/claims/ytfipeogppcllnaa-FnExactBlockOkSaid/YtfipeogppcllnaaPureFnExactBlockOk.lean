/- The program's BlockOk answers as the reference's, for every block; no condition. -/
import Derived.Test.YtfipeogppcllnaaFitFnExactBlockOk
import Derived.Test.YtfipeogppcllnaaWOwn
set_option linter.unusedVariables false
set_option linter.unusedSimpArgs false
namespace Go.Proofs.Ytfipeogppcllnaa.Pure
open Go.RowKit Go.Proofs.Ytfipeogppcllnaa.QFnExactBlockOk Go.Proofs.YtfipeogppcllnaaW.PrintWords Go.Proofs.YtfipeogppcllnaaW.PrintLast Go.Proofs.YtfipeogppcllnaaW.Own

theorem nat_lt {i n : Nat} (h : i < n) : ((i : Int) < (n : Int)) = True := by simp [h]
theorem nat_nlt {i n : Nat} (h : n ≤ i) : ((i : Int) < (n : Int)) = False := by simp [h]
theorem nat_pos (i : Nat) : (0 ≤ (i : Int)) = True := by simp
theorem wrap_succ {i : Nat} (h : i < 9223372036854775807) : wrap64 ((i : Int) + 1) = ((i + 1 : Nat) : Int) := by unfold wrap64; omega
theorem wrap_pred {i : Nat} (h : i < 9223372036854775807) : wrap64 ((i : Int) - 1) = (i : Int) - 1 := by unfold wrap64; omega
theorem wrap_sub {a : Int} {n : Nat} (h0 : 0 ≤ a) (h1 : a ≤ 9223372036854775807) (hn : n ≤ maxLen) : wrap64 (a - (n : Int)) = a - (n : Int) := by unfold wrap64; unfold maxLen at hn; omega
theorem rd_nat (l : List Int) (i : Nat) : rd l (i : Int) = l.getD i 0 := rfl
theorem getD_of {α : Type} {l : List α} {i : Nat} (h : i < l.length) (d : α) : l.getD i d = l[i] := by simp [List.getD, List.getElem?_eq_getElem h]
theorem drop_at {α : Type} {l : List α} {i : Nat} (h : i < l.length) : l.drop i = l[i] :: l.drop (i + 1) := List.drop_eq_getElem_cons h
theorem bt_nat (s : ByteArray) (i : Nat) (h : i < s.size) : bt s (i : Int) = ((s[i]'h).toNat : Int) := by
  unfold bt
  have : (i : Int).toNat = i := by omega
  simp [h]
/-- From an index on: at the end, and one round. -/
theorem from_index {P : Nat → Prop} {n : Nat} (h0 : P n) (h1 : ∀ i, i < n → P (i + 1) → P i) : ∀ i, i ≤ n → P i := by
  have key : ∀ d i, i + d = n → P i := by
    intro d
    induction d with
    | zero => intro i h; obtain rfl : i = n := by omega
              exact h0
    | succ d ih => intro i h; exact h1 i (by omega) (ih (i + 1) (by omega))
  intro i hi
  exact key (n - i) i (by omega)
/-- A row that is filled from the front. -/
def fillTo {α : Type} (xs : List α) (z : α) (i : Nat) : List α := xs.take i ++ List.replicate (xs.length - i) z
theorem fillTo_length {α : Type} (xs : List α) (z : α) (i : Nat) (h : i ≤ xs.length) : (fillTo xs z i).length = xs.length := by
  unfold fillTo; rw [List.length_append, List.length_take, List.length_replicate]; omega
theorem fillTo_zero {α : Type} (xs : List α) (z : α) : fillTo xs z 0 = List.replicate xs.length z := by simp [fillTo]
theorem fillTo_all {α : Type} (xs : List α) (z : α) : fillTo xs z xs.length = xs := by simp [fillTo]
theorem fillTo_set {α : Type} (xs : List α) (z : α) (i : Nat) (h : i < xs.length) : (fillTo xs z i).set i xs[i] = fillTo xs z (i + 1) := by
  unfold fillTo
  have hl : (xs.take i).length = i := by rw [List.length_take]; omega
  have e : xs.length - i = (xs.length - (i + 1)) + 1 := by omega
  rw [e, List.replicate_succ, List.set_append_right _ _ (by omega), hl, Nat.sub_self, List.set_cons_zero, List.take_succ_eq_append_getElem h, List.append_assoc]
  rfl
theorem fitInt_i64 {n : Int} (h : FitInt .i64 n) : -9223372036854775808 ≤ n ∧ n ≤ 9223372036854775807 := by
  have h1 : (Lit.int .i64 n).wf = true := h
  simp only [Lit.wf, IntKind.min, IntKind.max, IntKind.signed, IntKind.bits, Bool.and_eq_true, decide_eq_true_eq, if_true] at h1
  omega
theorem spec_LabelsOk_eq (l : List Lbl) (h : bdL l = true) : spec_LabelsOk.f l = some (labelsB l) := by unfold spec_LabelsOk.f; rw [if_pos h]
theorem impl_LabelsOk_eq (l : List Lbl) (h : bdL l = true) : impl_LabelsOk.f l = some (labelsB l) := by unfold impl_LabelsOk.f; rw [if_pos h]
def In_Label (x : S140) : Prop := x.f0.size ≤ 1048576 ∧ x.f1.size ≤ 1048576
def Bd_Label (x : S119) : Prop := x.f0.size ≤ 1048576 ∧ x.f1.size ≤ 1048576
def cv_Label (x : S140) : S119 := ⟨x.f0, x.f1⟩
theorem rdl_Label (l : List S140) (i : Nat) : rd_T140 l (i : Int) = l.getD i z140 := rfl
theorem rdi_Label (l : List S119) (i : Nat) : rd_T119 l (i : Int) = l.getD i z119 := rfl
theorem rdp_Label (l : List S119) (i : Nat) (h : 0 < i) : rd_T119 l ((i : Int) - 1) = l.getD (i - 1) z119 := by
  unfold rd_T119
  congr 1
  omega
theorem cvbd_Label (x : S140) (h : In_Label x) : Bd_Label (cv_Label x) := ⟨h.1, h.2⟩
theorem cvbds_Label (l : List S140) (h : ∀ x ∈ l, In_Label x) : ∀ y ∈ l.map cv_Label, Bd_Label y := fun y hy => by obtain ⟨u, hu, rfl⟩ := List.mem_map.1 hy; exact cvbd_Label u (h u hu)
theorem bdL_of (l : List Lbl) (hl : l.length ≤ 1048576) (h : ∀ x ∈ l, Bd_Label x) : bdL l = true := by
  unfold bdL
  rw [decide_eq_true (show l.length < 9223372036854775807 by omega), Bool.true_and]
  refine List.all_eq_true.2 fun x hx => ?_
  have hb := h x hx
  unfold Bd_Label at hb
  simp only [bdS, decide_eq_true (show x.f0.size < 9223372036854775807 by omega), decide_eq_true (show x.f1.size < 9223372036854775807 by omega), Bool.and_self]
theorem spec_l1In_eq (a b c : Int) : spec_l1In.f a b c = some (decide (b ≤ a ∧ a ≤ c)) := by
  unfold spec_l1In.f
  by_cases h : a ≥ b
  · rw [if_pos h]
    have h' : b ≤ a := h
    simp [h']
  · rw [if_neg h]
    have h' : ¬ b ≤ a := h
    simp [h']
def prevOf (l : List Smp) (i : Nat) : Option Smp := if i = 0 then none else some (l.getD (i - 1) z87)
theorem rdS_nat (l : List Smp) (i : Nat) : rd_T87 l (i : Int) = l.getD i z87 := rfl
theorem rdS_pred (l : List Smp) (i : Nat) (h : 0 < i) : rd_T87 l ((i : Int) - 1) = l.getD (i - 1) z87 := by
  unfold rd_T87
  congr 1
  omega
theorem sokP_cons (p : Option Smp) (x : Smp) (l : List Smp) : sokP p (x :: l) = (inR x && (match p with | none => true | some q => decide (q.f0 < x.f0)) && sokP (some x) l) := by cases p <;> rfl
theorem prevOf_succ (l : List Smp) (i : Nat) (h : i < l.length) : prevOf l (i + 1) = some l[i] := by
  unfold prevOf
  rw [if_neg (by omega), Nat.add_sub_cancel, getD_of h]
theorem sokP_step (l : List Smp) (i : Nat) (h : i < l.length) : sokP (prevOf l i) (l.drop i) = (inR l[i] && (if 0 < i then decide ((l.getD (i - 1) z87).f0 < (l[i]).f0) else true) && sokP (prevOf l (i + 1)) (l.drop (i + 1))) := by
  rw [drop_at h, sokP_cons, prevOf_succ l i h]
  by_cases hi : i = 0
  · subst hi; rfl
  · unfold prevOf
    rw [if_neg hi, if_pos (by omega)]
theorem spec_l2Ok_ev (l : List Smp) (hl : l.length < 9223372036854775807) : Ev (fun _ => spec_l2Ok.f l) (sok l) := by
  refine Ev.const ?_
  unfold spec_l2Ok.f
  rw [if_pos hl]
theorem impl_SamplesOk_eq (l : List Smp) (hl : l.length < 9223372036854775807) : impl_SamplesOk.f l = some (sok l) := by
  unfold impl_SamplesOk.f
  rw [if_pos hl]
theorem bl_irrefl : ∀ x : List UInt8, Op.bytesLess x x = false
  | [] => rfl
  | a :: x => by
    rw [Op.bytesLess, bl_irrefl x]
    simp
theorem bl_asymm : ∀ x y : List UInt8, Op.bytesLess x y = true → Op.bytesLess y x = false
  | [], [], h => by cases h
  | _ :: _, [], h => by cases h
  | [], _ :: _, _ => rfl
  | a :: x, b :: y, h => by
    rw [Op.bytesLess, Bool.or_eq_true, Bool.and_eq_true, decide_eq_true_eq, beq_iff_eq] at h
    rw [Op.bytesLess, Bool.or_eq_false_iff]
    rcases h with h | ⟨h, h2⟩
    · refine ⟨decide_eq_false (UInt8.lt_asymm h), ?_⟩
      rw [beq_eq_false_iff_ne.mpr (UInt8.ne_of_lt h).symm, Bool.false_and]
    · subst h
      refine ⟨decide_eq_false (UInt8.lt_irrefl a), ?_⟩
      rw [bl_asymm x y h2, Bool.and_false]
theorem bl_trans : ∀ x y z : List UInt8, Op.bytesLess x y = true → Op.bytesLess y z = true → Op.bytesLess x z = true
  | x, [], _, h, _ => by cases x <;> simp [Op.bytesLess] at h
  | _, _ :: _, [], _, h => by cases h
  | [], _ :: _, _ :: _, _, _ => rfl
  | a :: x, b :: y, c :: z, h, g => by
    rw [Op.bytesLess, Bool.or_eq_true, Bool.and_eq_true, decide_eq_true_eq, beq_iff_eq] at h g ⊢
    rcases h with h | ⟨h, h2⟩
    · rcases g with g | ⟨g, g2⟩
      · exact Or.inl (UInt8.lt_trans h g)
      · exact Or.inl (g ▸ h)
    · rcases g with g | ⟨g, g2⟩
      · exact Or.inl (h ▸ g)
      · exact Or.inr ⟨h.trans g, bl_trans x y z h2 g2⟩
theorem bl_tri : ∀ x y : List UInt8, Op.bytesLess x y = false → Op.bytesLess y x = false → x = y
  | [], [], _, _ => rfl
  | _ :: _, [], _, h => by cases h
  | [], _ :: _, h, _ => by cases h
  | a :: x, b :: y, h, g => by
    rw [Op.bytesLess, Bool.or_eq_false_iff, decide_eq_false_iff_not] at h g
    have e : a = b := UInt8.le_antisymm (UInt8.not_lt.mp g.1) (UInt8.not_lt.mp h.1)
    subst e
    have h2 := h.2
    have g2 := g.2
    rw [beq_self_eq_true, Bool.true_and] at h2 g2
    rw [bl_tri x y h2 g2]
theorem my_toList_inj {a b : ByteArray} (h : a.toList = b.toList) : a = b := by
  rw [ByteArray.toList_eq, ByteArray.toList_eq] at h
  exact Go.WideShapes.bytes_inj h
theorem cmpT_lt (a b : ByteArray) : cmpT a b < 0 ↔ Op.bytesLess a.toList b.toList = true := by
  unfold cmpT
  cases h1 : Op.bytesLess a.toList b.toList
  · cases h2 : (a.toList == b.toList) <;> simp
  · simp
theorem cmpT_anti (a b : ByteArray) : cmpT b a = - cmpT a b := by
  unfold cmpT
  cases h : Op.bytesLess a.toList b.toList
  · cases g : Op.bytesLess b.toList a.toList
    · have e := bl_tri _ _ h g
      rw [e]
      simp
    · have e : (a.toList == b.toList) = false := by
        cases h2 : (a.toList == b.toList)
        · rfl
        · rw [beq_iff_eq.mp h2, bl_irrefl] at g; cases g
      rw [e]
      simp
  · have e : (b.toList == a.toList) = false := by
      cases h2 : (b.toList == a.toList)
      · rfl
      · rw [beq_iff_eq.mp h2, bl_irrefl] at h; cases h
    rw [bl_asymm _ _ h, e]
    simp
theorem cmpT_zero (a b : ByteArray) : cmpT a b = 0 ↔ a = b := by
  unfold cmpT
  constructor
  · intro h
    cases h1 : Op.bytesLess a.toList b.toList
    · cases h2 : (a.toList == b.toList)
      · rw [h1, h2] at h; simp at h
      · exact my_toList_inj (beq_iff_eq.mp h2)
    · rw [h1] at h; simp at h
  · rintro rfl
    rw [bl_irrefl]; simp
theorem cmpT_trans (a b c : ByteArray) (h : cmpT a b < 0) (g : cmpT b c < 0) : cmpT a c < 0 := by
  rw [cmpT_lt] at h g ⊢
  exact bl_trans _ _ _ h g
theorem cmp1_anti (x y : Lbl) : cmp1 y x = - cmp1 x y := by
  unfold cmp1
  rw [cmpT_anti x.f0 y.f0, cmpT_anti x.f1 y.f1]
  by_cases h : cmpT x.f0 y.f0 = 0
  · rw [if_pos h, if_pos (by omega)]
  · rw [if_neg h, if_neg (by omega)]
theorem cmp1_zero (x y : Lbl) : cmp1 x y = 0 ↔ x = y := by
  obtain ⟨a, b⟩ := x
  obtain ⟨c, d⟩ := y
  unfold cmp1
  constructor
  · intro h
    by_cases h0 : cmpT a c = 0
    · rw [if_pos h0] at h
      rw [(cmpT_zero a c).1 h0, (cmpT_zero b d).1 h]
    · rw [if_neg h0] at h
      exact absurd h h0
  · intro h
    injection h with h1 h2
    rw [if_pos ((cmpT_zero a c).2 h1)]
    exact (cmpT_zero b d).2 h2
theorem cmp1_trans (x y z : Lbl) (h : cmp1 x y < 0) (g : cmp1 y z < 0) : cmp1 x z < 0 := by
  unfold cmp1 at h g ⊢
  by_cases h0 : cmpT x.f0 y.f0 = 0
  · rw [if_pos h0] at h
    have e := (cmpT_zero _ _).1 h0
    rw [e]
    by_cases g0 : cmpT y.f0 z.f0 = 0
    · rw [if_pos g0] at g ⊢
      exact cmpT_trans _ _ _ h g
    · rw [if_neg g0] at g ⊢
      exact g
  · rw [if_neg h0] at h
    by_cases g0 : cmpT y.f0 z.f0 = 0
    · have e := (cmpT_zero _ _).1 g0
      rw [← e, if_neg h0]
      exact h
    · rw [if_neg g0] at g
      have t := cmpT_trans _ _ _ h g
      rw [if_neg (by omega)]
      exact t
theorem cmpL_anti : ∀ a b : List Lbl, cmpL b a = - cmpL a b
  | [], [] => rfl
  | [], _ :: _ => rfl
  | _ :: _, [] => rfl
  | x :: a, y :: b => by
    rw [cmpL, cmpL, cmp1_anti x y, cmpL_anti a b]
    by_cases h : cmp1 x y = 0
    · rw [if_pos h, if_pos (by omega)]
    · rw [if_neg h, if_neg (by omega)]
theorem cmpL_zero : ∀ a b : List Lbl, cmpL a b = 0 ↔ a = b
  | [], [] => by simp [cmpL]
  | [], _ :: _ => by simp [cmpL]
  | _ :: _, [] => by simp [cmpL]
  | x :: a, y :: b => by
    rw [cmpL]
    by_cases h : cmp1 x y = 0
    · rw [if_pos h, cmpL_zero a b, (cmp1_zero x y).1 h]; simp
    · rw [if_neg h]
      constructor
      · intro g; exact absurd g h
      · intro g
        injection g with g1 g2
        exact absurd ((cmp1_zero x y).2 g1) h
theorem cmpL_trans : ∀ a b c : List Lbl, cmpL a b ≤ 0 → cmpL b c ≤ 0 → cmpL a c ≤ 0
  | [], _, [], _, _ => by simp [cmpL]
  | [], _, _ :: _, _, _ => by simp [cmpL]
  | _ :: _, [], _, h, _ => by simp [cmpL] at h
  | _ :: _, _ :: _, [], _, g => by simp [cmpL] at g
  | x :: a, y :: b, z :: c, h, g => by
    rw [cmpL] at h g ⊢
    by_cases h0 : cmp1 x y = 0
    · rw [if_pos h0] at h
      rw [(cmp1_zero x y).1 h0]
      by_cases g0 : cmp1 y z = 0
      · rw [if_pos g0] at g ⊢
        exact cmpL_trans a b c h g
      · rw [if_neg g0] at g ⊢
        exact g
    · rw [if_neg h0] at h
      by_cases g0 : cmp1 y z = 0
      · rw [← (cmp1_zero y z).1 g0, if_neg h0]
        exact h
      · rw [if_neg g0] at g
        have t := cmp1_trans x y z (by omega) (by omega)
        rw [if_neg (by omega)]
        omega
theorem rdLb (l : List Lbl) {i : Nat} (h : i < l.length) : rd_T119 l (i : Int) = l[i] := by unfold rd_T119; rw [Int.toNat_natCast, getD_of h]
theorem spec_l3Cmp_eq (a b : List Lbl) (ha : a.length < 9223372036854775807) (hb : b.length < 9223372036854775807) : spec_l3Cmp.f a b = some (cmpL a b) := by
  unfold spec_l3Cmp.f
  rw [if_pos ⟨ha, hb⟩]
theorem impl_cmpLabels_eq (a b : List Lbl) (ha : a.length < 9223372036854775807) (hb : b.length < 9223372036854775807) : impl_cmpLabels.f a b = some (cmpL a b) := by
  unfold impl_cmpLabels.f
  rw [if_pos ⟨ha, hb⟩]
theorem rdW (l : List Rw) (i : Nat) : rd_T107 l (i : Int) = l.getD i z107 := rfl
theorem rdWp (l : List Rw) (i : Nat) (h : 0 < i) : rd_T107 l ((i : Int) - 1) = l.getD (i - 1) z107 := by
  unfold rd_T107
  congr 1
  omega
theorem rows_on (l : List Rw) (z : Rw) (i : Nat) (h : i < l.length) (hR : rowR (l.getD i z) = true) (hl : 0 < i → rowLt (l.getD (i - 1) z) (l.getD i z) = true) : chainP rowR rowLt (prevG l z i) (l.drop i) = chainP rowR rowLt (prevG l z (i + 1)) (l.drop (i + 1)) := by
  by_cases h0 : 0 < i
  · exact chainP_on rowR rowLt l z i h h0 hR (hl h0)
  · obtain rfl : i = 0 := by omega
    exact chainP_on0 rowR rowLt l z h hR
theorem rows_ev {l : List Rw} (i : Nat) (hi : i < l.length) (hn : l.length < 9223372036854775807) (z : Rw) (g : Nat → Option Bool)
    (ih : Ev g (chainP rowR rowLt (prevG l z (i + 1)) (l.drop (i + 1)) && decide ((l.length : Int) ≤ 10))) (hR : rowR (l.getD i z) = true)
    (cmpf : Nat → Option Int) (hc : 0 < i → Ev cmpf (cmpL (l.getD (i - 1) z).f0 (l.getD i z).f0)) :
    Ev (fun k => if (i : Int) > 0 then (if 0 ≤ wrap64 ((i : Int) - 1) then (if wrap64 ((i : Int) - 1) < (l.length : Int) then (cmpf k).bind fun t => (if t ≥ 0 then some false else g k) else none) else none) else g k) (chainP rowR rowLt (prevG l z i) (l.drop i) && decide ((l.length : Int) ≤ 10)) := by
  by_cases h0 : 0 < i
  · rw [wrap_pred (show i < 9223372036854775807 by omega)]
    refine Ev.ifp (by omega) (Ev.ifp (by omega) (Ev.ifp (by omega) (Ev.bind (hc h0) ?_)))
    by_cases c : cmpL (l.getD (i - 1) z).f0 (l.getD i z).f0 ≥ 0
    · rw [chainP_no2 rowR rowLt l z i hi h0 (decide_eq_false (by omega)), Bool.false_and]
      exact Ev.ifp c (Ev.now _)
    · rw [rows_on l z i hi hR (fun _ => decide_eq_true (by omega))]
      exact Ev.ifn c ih
  · rw [rows_on l z i hi hR (fun h => absurd h h0)]
    exact Ev.ifn (by omega) ih
theorem spec_RowsOk_eq (l : List Rw) (hb : bdW l = true) : spec_RowsOk.f l = some (rowsB l) := by
  unfold spec_RowsOk.f
  rw [if_pos hb]
theorem impl_RowsOk_ev (l : List Rw) (hb : bdW l = true) : Ev (fun k => impl_RowsOk.f k l) (rowsB l) := by
  have hn := bdW_len hb
  have key : ∀ i, i ≤ l.length → Ev (fun k => impl_RowsOk.l0 k l l (l.length : Int) (i : Int)) (chainP rowR rowLt (prevG l z107 i) (l.drop i) && decide ((l.length : Int) ≤ 10)) := by
    refine from_index ?_ ?_
    · refine Ev.step (fun k => by rw [impl_RowsOk.l0]) ?_
      rw [chainP_end rowR rowLt l _ _ (Nat.le_refl _), Bool.true_and]
      exact Ev.ifn (by omega) (Ev.now _)
    · intro i hi ih
      have hm : l.getD i z107 ∈ l := by rw [getD_of hi]; exact List.getElem_mem _
      obtain ⟨b0, b1⟩ := bdW_at hb hm
      refine Ev.step (fun k => by rw [impl_RowsOk.l0]) ?_
      rw [rdW l i]
      refine Ev.ifp (by omega) (Ev.ifp (by omega) (Ev.ifp (by omega) (Ev.bind (Ev.const (impl_LabelsOk_eq _ b0)) ?_)))
      cases hA : labelsB (l.getD i z107).f0
      · rw [chainP_no1 rowR rowLt l _ i hi (by unfold rowR; rw [hA, Bool.false_and]), Bool.false_and]
        exact Ev.ifn (by decide) (Ev.now _)
      refine Ev.ifp rfl ?_
      by_cases c1 : ((l.getD i z107).f1.length : Int) < 1
      · rw [chainP_no1 rowR rowLt l _ i hi (by unfold rowR; rw [decide_eq_false (show ¬ (1 ≤ ((l.getD i z107).f1.length : Int) ∧ ((l.getD i z107).f1.length : Int) ≤ 1000) by omega), Bool.and_false, Bool.and_false]), Bool.false_and]
        exact Ev.ifp c1 (Ev.now _)
      refine Ev.ifn c1 ?_
      by_cases c2 : ((l.getD i z107).f1.length : Int) > 1000
      · rw [chainP_no1 rowR rowLt l _ i hi (by unfold rowR; rw [decide_eq_false (show ¬ (1 ≤ ((l.getD i z107).f1.length : Int) ∧ ((l.getD i z107).f1.length : Int) ≤ 1000) by omega), Bool.and_false, Bool.and_false]), Bool.false_and]
        exact Ev.ifp c2 (Ev.now _)
      refine Ev.ifn c2 (Ev.bind (Ev.const (impl_SamplesOk_eq _ b1)) ?_)
      cases hB : sok (l.getD i z107).f1
      · rw [chainP_no1 rowR rowLt l _ i hi (by unfold rowR; rw [hB, Bool.false_and, Bool.and_false]), Bool.false_and]
        exact Ev.ifn (by decide) (Ev.now _)
      refine Ev.ifp rfl ?_
      rw [wrap_succ (show i < 9223372036854775807 by omega)]
      refine rows_ev i hi hn z107 (fun k => impl_RowsOk.l0 k l l (l.length : Int) ((i + 1 : Nat) : Int)) ih (by unfold rowR; rw [hA, hB, decide_eq_true (show 1 ≤ ((l.getD i z107).f1.length : Int) ∧ ((l.getD i z107).f1.length : Int) ≤ 1000 by omega)]; rfl) (fun k => impl_cmpLabels.f (rd_T107 l (wrap64 ((i : Int) - 1))).f0 (l.getD i z107).f0) (fun h0 => ?_)
      rw [wrap_pred (show i < 9223372036854775807 by omega), rdWp l i h0]
      have hm2 : l.getD (i - 1) z107 ∈ l := by rw [getD_of (show i - 1 < l.length by omega)]; exact List.getElem_mem _
      exact Ev.const (impl_cmpLabels_eq _ _ (bdL_len (bdW_at hb hm2).1) (bdL_len b0))
  unfold impl_RowsOk.f rowsB
  exact key 0 (Nat.zero_le _)
theorem bdW_of (l : List Rw) (hl : l.length ≤ 1048576) (h : ∀ x ∈ l, bdL x.f0 = true ∧ x.f1.length ≤ 1048576) : bdW l = true := by
  unfold bdW
  rw [decide_eq_true (show l.length < 9223372036854775807 by omega), Bool.true_and]
  refine List.all_eq_true.2 fun x hx => ?_
  obtain ⟨h0, h1⟩ := h x hx
  rw [h0, decide_eq_true (show x.f1.length < 9223372036854775807 by omega)]
  rfl
theorem chainP_all {α : Type} (R : α → Bool) (lt : α → α → Bool) : ∀ (l : List α) (p : Option α), chainP R lt p l = true → ∀ x ∈ l, R x = true
  | [], _, _, x, hx => by cases hx
  | y :: l, p, h, x, hx => by
    rw [chainP_cons] at h
    have h1 := Bool.and_eq_true _ _ ▸ h
    have h2 := Bool.and_eq_true _ _ ▸ h1.1
    rcases List.mem_cons.1 hx with rfl | hx
    · exact h2.1
    · exact chainP_all R lt l _ h1.2 x hx
theorem sokP_lt : ∀ (l : List Smp) (q : Smp), chainP inR smpLt (some q) l = true → ∀ y ∈ l, q.f0 < y.f0
  | [], _, _, y, hy => by cases hy
  | x :: l, q, h, y, hy => by
    rw [chainP_cons] at h
    have h1 := Bool.and_eq_true _ _ ▸ h
    have h2 := Bool.and_eq_true _ _ ▸ h1.1
    have h3 : q.f0 < x.f0 := of_decide_eq_true h2.2
    rcases List.mem_cons.1 hy with rfl | hy
    · exact h3
    · have := sokP_lt l x h1.2 y hy
      omega
theorem sokP_head (l : List Smp) (p : Option Smp) (h : chainP inR smpLt p l = true) : ∀ y ∈ l, (l.getD 0 z87).f0 ≤ y.f0 := by
  intro y hy
  cases l with
  | nil => cases hy
  | cons x l =>
    rw [chainP_cons] at h
    have h1 := Bool.and_eq_true _ _ ▸ h
    show x.f0 ≤ y.f0
    rcases List.mem_cons.1 hy with rfl | hy
    · exact Int.le_refl _
    · exact Int.le_of_lt (sokP_lt l x h1.2 y hy)
theorem sokP_last : ∀ (l : List Smp) (p : Option Smp), chainP inR smpLt p l = true → ∀ y ∈ l, y.f0 ≤ (l.getD (l.length - 1) z87).f0
  | [], _, _, y, hy => by cases hy
  | [x], _, _, y, hy => by
    rcases List.mem_cons.1 hy with rfl | hy
    · exact Int.le_refl _
    · cases hy
  | x :: z :: l, p, h, y, hy => by
    rw [chainP_cons] at h
    have h1 := Bool.and_eq_true _ _ ▸ h
    have e : (x :: z :: l).getD ((x :: z :: l).length - 1) z87 = (z :: l).getD ((z :: l).length - 1) z87 := by simp [List.getD]
    rw [e]
    have ih := sokP_last (z :: l) (some x) h1.2
    rcases List.mem_cons.1 hy with rfl | hy
    · have h3 := sokP_lt (z :: l) y h1.2 z List.mem_cons_self
      have h4 := ih z List.mem_cons_self
      omega
    · exact ih y hy
theorem getD_mem {α : Type} (l : List α) (z : α) (i : Nat) (h : i < l.length) : l.getD i z ∈ l := by
  rw [getD_at h]
  exact List.getElem_mem _
def fstT (x : Rw) : Int := (x.f1.getD 0 z87).f0
def lstT (x : Rw) : Int := (x.f1.getD (x.f1.length - 1) z87).f0
def firstF : Int → List Rw → Int
  | m, [] => m
  | m, x :: l => firstF (if fstT x < m then fstT x else m) l
def lastF : Int → List Rw → Int
  | m, [] => m
  | m, x :: l => lastF (if lstT x > m then lstT x else m) l
theorem firstF_ge : ∀ (l : List Rw) (m a : Int), firstF m l ≥ a ↔ m ≥ a ∧ ∀ x ∈ l, fstT x ≥ a
  | [], m, a => by simp [firstF]
  | x :: l, m, a => by
    show firstF _ l ≥ a ↔ _
    rw [firstF_ge l _ a, List.forall_mem_cons]
    split
    · constructor
      · rintro ⟨h1, h2⟩; exact ⟨by omega, h1, h2⟩
      · rintro ⟨_, h1, h2⟩; exact ⟨h1, h2⟩
    · constructor
      · rintro ⟨h1, h2⟩; exact ⟨h1, by omega, h2⟩
      · rintro ⟨h1, _, h2⟩; exact ⟨h1, h2⟩
theorem lastF_lt : ∀ (l : List Rw) (m a : Int), lastF m l < a ↔ m < a ∧ ∀ x ∈ l, lstT x < a
  | [], m, a => by simp [lastF]
  | x :: l, m, a => by
    show lastF _ l < a ↔ _
    rw [lastF_lt l _ a, List.forall_mem_cons]
    split
    · constructor
      · rintro ⟨h1, h2⟩; exact ⟨by omega, h1, h2⟩
      · rintro ⟨_, h1, h2⟩; exact ⟨h1, h2⟩
    · constructor
      · rintro ⟨h1, h2⟩; exact ⟨h1, by omega, h2⟩
      · rintro ⟨h1, _, h2⟩; exact ⟨h1, h2⟩
theorem spec_l6First_ev (l : List Rw) (hl : l.length < 9223372036854775807) (h : ∀ x ∈ l, 0 < x.f1.length) : Ev (fun k => spec_l6First.f k l) (firstF 10000 l) := by
  have key : ∀ i, i ≤ l.length → ∀ m, Ev (fun k => spec_l6First.l0 k l m (i : Int)) (firstF m (l.drop i)) := by
    refine from_index ?_ ?_
    · intro m
      refine Ev.step (fun k => by rw [spec_l6First.l0]) ?_
      rw [List.drop_length]
      exact Ev.ifn (by omega) (Ev.now _)
    · intro i hi ih m
      have hm : l.getD i z107 ∈ l := getD_mem l _ i hi
      have h0 := h _ hm
      refine Ev.step (fun k => by rw [spec_l6First.l0]) ?_
      rw [rdW l i, wrap_succ (show i < 9223372036854775807 by omega), drop_at hi, show firstF m (l[i] :: l.drop (i + 1)) = firstF (if fstT l[i] < m then fstT l[i] else m) (l.drop (i + 1)) from rfl, ← getD_at hi z107]
      refine Ev.ifp (by omega) (Ev.ifp (by omega) (Ev.ifp (by omega) ?_))
      show Ev (fun k => if fstT (l.getD i z107) < m then spec_l6First.l0 k l (fstT (l.getD i z107)) ((i + 1 : Nat) : Int) else spec_l6First.l0 k l m ((i + 1 : Nat) : Int)) _
      by_cases c : fstT (l.getD i z107) < m
      · rw [if_pos c]
        exact Ev.ifp c (ih _)
      · rw [if_neg c]
        exact Ev.ifn c (ih _)
  unfold spec_l6First.f
  exact key 0 (Nat.zero_le _) 10000
theorem spec_l6Last_ev (l : List Rw) (hl : l.length < 9223372036854775807) (h : ∀ x ∈ l, 0 < x.f1.length ∧ x.f1.length < 9223372036854775807) : Ev (fun k => spec_l6Last.f k l) (lastF (-1) l) := by
  have key : ∀ i, i ≤ l.length → ∀ m, Ev (fun k => spec_l6Last.l0 k l m (i : Int)) (lastF m (l.drop i)) := by
    refine from_index ?_ ?_
    · intro m
      refine Ev.step (fun k => by rw [spec_l6Last.l0]) ?_
      rw [List.drop_length]
      exact Ev.ifn (by omega) (Ev.now _)
    · intro i hi ih m
      have hm : l.getD i z107 ∈ l := getD_mem l _ i hi
      obtain ⟨h0, h1⟩ := h _ hm
      refine Ev.step (fun k => by rw [spec_l6Last.l0]) ?_
      rw [rdW l i, wrap_succ (show i < 9223372036854775807 by omega), wrap_pred h1, drop_at hi, show lastF m (l[i] :: l.drop (i + 1)) = lastF (if lstT l[i] > m then lstT l[i] else m) (l.drop (i + 1)) from rfl, ← getD_at hi z107]
      refine Ev.ifp (by omega) (Ev.ifp (by omega) (Ev.ifp (by omega) (Ev.ifp (by omega) ?_)))
      have e : (rd_T87 (l.getD i z107).f1 (((l.getD i z107).f1.length : Int) - 1)).f0 = lstT (l.getD i z107) := by
        unfold rd_T87 lstT
        congr 2
        omega
      rw [e]
      by_cases c : lstT (l.getD i z107) > m
      · rw [if_pos c]
        exact Ev.ifp c (ih _)
      · rw [if_neg c]
        exact Ev.ifn c (ih _)
  unfold spec_l6Last.f
  exact key 0 (Nat.zero_le _) (-1)
theorem insP_iff (a b : Int) (x : Rw) : insP a b x = false ↔ ∀ s ∈ x.f1, a ≤ s.f0 ∧ s.f0 < b := by
  unfold insP cutL
  rw [decide_eq_false_iff_not, List.length_filter_lt_length_iff_exists]
  constructor
  · intro h s hs
    have : cutP a b s = false := by
      cases hc : cutP a b s
      · rfl
      · exact absurd ⟨s, hs, by simp [hc]⟩ h
    unfold cutP at this
    simp at this
    exact this
  · rintro h ⟨s, hs, hn⟩
    obtain ⟨h1, h2⟩ := h s hs
    apply hn
    unfold cutP
    simp
    omega
theorem insideB_iff (l : List Rw) (a b : Int) (h : ∀ x ∈ l, sok x.f1 = true ∧ 0 < x.f1.length) : insideB l a b = true ↔ (∀ x ∈ l, fstT x ≥ a) ∧ ∀ x ∈ l, lstT x < b := by
  unfold insideB
  rw [Bool.not_eq_true', List.any_eq_false]
  constructor
  · intro hi
    refine ⟨fun x hx => ?_, fun x hx => ?_⟩
    · have h1 := (insP_iff a b x).1 (by simpa using hi x hx)
      exact (h1 _ (getD_mem x.f1 _ 0 (h x hx).2)).1
    · have h1 := (insP_iff a b x).1 (by simpa using hi x hx)
      exact (h1 _ (getD_mem x.f1 _ (x.f1.length - 1) (by have := (h x hx).2; omega))).2
  · rintro ⟨h1, h2⟩ x hx
    have h3 := (insP_iff a b x).2 (fun s hs => by
      have e1 := sokP_head x.f1 none (h x hx).1 s hs
      have e2 := sokP_last x.f1 none (h x hx).1 s hs
      have e3 := h1 x hx
      have e4 := h2 x hx
      unfold fstT at e3
      unfold lstT at e4
      omega)
    simp [h3]
theorem rowsB_at (l : List Rw) (h : rowsB l = true) : ∀ x ∈ l, sok x.f1 = true ∧ 0 < x.f1.length := by
  intro x hx
  unfold rowsB at h
  have h1 := chainP_all rowR rowLt l none (Bool.and_eq_true _ _ ▸ h).1 x hx
  unfold rowR at h1
  have h2 := Bool.and_eq_true _ _ ▸ h1
  have h3 := Bool.and_eq_true _ _ ▸ h2.2
  have h4 := of_decide_eq_true h3.2
  exact ⟨h3.1, by omega⟩
def wideB (d : Int) : Bool := decide (d = 100 ∨ d = 300 ∨ d = 900)
def rngB (lo d : Int) : Bool := decide (0 ≤ lo ∧ lo ≤ 9999) && (wideB d && decide (Int.tmod lo d = 0))
def blockB (lo hi : Int) (l : List Rw) : Bool := rngB lo (wrap64 (hi - lo)) && (rowsB l && (decide (0 < l.length) && insideB l lo hi))
theorem spec_l7Wide_eq (d : Int) : spec_l7Wide.f d = some (wideB d) := by
  unfold spec_l7Wide.f wideB
  by_cases h1 : d = 100
  · rw [if_pos h1, decide_eq_true (Or.inl h1)]
  rw [if_neg h1]
  by_cases h2 : d = 300
  · rw [if_pos h2, decide_eq_true (Or.inr (Or.inl h2))]
  rw [if_neg h2]
  congr 1
  rw [← Bool.coe_iff_coe]
  simp [h1, h2]
theorem index_ev (l : List Int) (a : Int) (hl : l.length < 9223372036854775807) : ∃ j : Int, Ev (fun k => slices_Index_int_int.f k l a) j ∧ decide (j ≥ 0) = l.contains a := by
  have key : ∀ i, i ≤ l.length → ∃ j : Int, Ev (fun k => slices_Index_int_int.l0 k l a (l.length : Int) (i : Int)) j ∧ decide (j ≥ 0) = (l.drop i).contains a := by
    refine from_index ?_ ?_
    · refine ⟨-1, Ev.step (fun k => by rw [slices_Index_int_int.l0]) (Ev.ifn (by omega) (Ev.now _)), ?_⟩
      rw [List.drop_length]
      rfl
    · rintro i hi ⟨j, ih, hj⟩
      have e : (l.drop i).contains a = (a == l.getD i 0 || (l.drop (i + 1)).contains a) := by
        rw [drop_at hi, getD_at hi, List.contains_cons]
      by_cases c : a = l.getD i 0
      · refine ⟨(i : Int), Ev.step (fun k => by rw [slices_Index_int_int.l0]) ?_, ?_⟩
        · rw [rd_nat]
          exact Ev.ifp (by omega) (Ev.ifp (by omega) (Ev.ifp (by omega) (Ev.ifp c (Ev.now _))))
        · rw [e, show (a == l.getD i 0) = true from beq_iff_eq.2 c, Bool.true_or]
          exact decide_eq_true (by omega)
      · refine ⟨j, Ev.step (fun k => by rw [slices_Index_int_int.l0]) ?_, ?_⟩
        · rw [rd_nat, wrap_succ (show i < 9223372036854775807 by omega)]
          exact Ev.ifp (by omega) (Ev.ifp (by omega) (Ev.ifp (by omega) (Ev.ifn c ih)))
        · rw [e, show (a == l.getD i 0) = false from beq_eq_false_iff_ne.2 c, Bool.false_or]
          exact hj
  obtain ⟨j, h1, h2⟩ := key 0 (Nat.zero_le _)
  exact ⟨j, by unfold slices_Index_int_int.f; exact h1, h2⟩
theorem impl_isRange_ev (lo hi : Int) : Ev (fun k => impl_isRange.f k lo hi) (rngB lo (wrap64 (hi - lo))) := by
  unfold impl_isRange.f rngB
  refine Ev.bind (Ev.const (isTime_dec lo)) ?_
  cases h1 : decide (0 ≤ lo ∧ lo ≤ 9999)
  · exact Ev.ifn (by decide) (Ev.now _)
  refine Ev.ifp rfl (Ev.bind (Ev.now _) ?_)
  generalize wrap64 (hi - lo) = d
  have hc : ([100, 300, 900] : List Int).contains d = wideB d := by
    unfold wideB
    rw [← Bool.coe_iff_coe]
    simp
  obtain ⟨j, hj, hd⟩ := index_ev [100, 300, 900] d (by simp)
  have hC : Ev (fun k => slices_Contains_int_int.f k [100, 300, 900] d) (wideB d) := by
    unfold slices_Contains_int_int.f
    exact Ev.bind hj (Ev.some_ (by rw [hd, hc]))
  refine Ev.bind hC ?_
  cases h2 : wideB d
  · exact Ev.ifn (by decide) (Ev.now _)
  have h3 : d ≠ 0 := by
    unfold wideB at h2
    have := of_decide_eq_true h2
    omega
  refine Ev.ifp rfl (Ev.ifn h3 (Ev.some_ ?_))
  rw [← Bool.coe_iff_coe]
  simp
theorem impl_BlockOk_ev (lo hi : Int) (l : List Rw) (hb : bdW l = true) (hi_ : bdI l = true) : Ev (fun k => impl_BlockOk.f k lo hi l) (blockB lo hi l) := by
  unfold impl_BlockOk.f blockB
  refine Ev.bind (impl_isRange_ev lo hi) ?_
  cases h1 : rngB lo (wrap64 (hi - lo))
  · exact Ev.ifn (by decide) (Ev.now _)
  refine Ev.ifp rfl (Ev.bind (impl_RowsOk_ev l hb) ?_)
  cases h2 : rowsB l
  · exact Ev.ifn (by decide) (Ev.now _)
  refine Ev.ifp rfl ?_
  by_cases h3 : (l.length : Int) > 0
  · rw [decide_eq_true (show 0 < l.length by omega)]
    have hI : impl_inside.f l lo hi = some (insideB l lo hi) := by unfold impl_inside.f; rw [if_pos hi_]
    exact Ev.ifp h3 (Ev.bind (Ev.const hI) (Ev.now _))
  · rw [decide_eq_false (show ¬ 0 < l.length by omega)]
    exact Ev.ifn h3 (Ev.now _)
theorem spec_BlockOk_ev (lo hi : Int) (l : List Rw) (hb : bdW l = true) (hh : -9223372036854775808 ≤ hi ∧ hi ≤ 9223372036854775807) : Ev (fun k => spec_BlockOk.f k lo hi l) (blockB lo hi l) := by
  have hJ : ∀ r : Bool, r = false → Ev (fun k => spec_BlockOk.j0 k true lo hi l) r := fun r hr => by
    subst hr
    exact Ev.step (fun k => by rw [spec_BlockOk.j0]) (Ev.ifp rfl (Ev.now _))
  unfold spec_BlockOk.f blockB rngB
  refine Ev.bind (Ev.const (spec_l1In_eq _ _ _)) ?_
  cases h1 : decide (0 ≤ lo ∧ lo ≤ 9999)
  · exact Ev.ifn (by decide) (hJ _ rfl)
  refine Ev.ifp rfl (Ev.bind (Ev.const (spec_l7Wide_eq _)) ?_)
  cases h2 : wideB (wrap64 (hi - lo))
  · exact Ev.ifn (by decide) (hJ _ rfl)
  have h3 : wrap64 (hi - lo) ≠ 0 ∧ -1 < hi := by
    unfold wideB at h2
    have h4 := of_decide_eq_true h2
    have h5 := of_decide_eq_true h1
    unfold wrap64 at h4 ⊢
    omega
  refine Ev.ifp rfl (Ev.ifn h3.1 ?_)
  by_cases h4 : Int.tmod lo (wrap64 (hi - lo)) = 0
  · rw [decide_eq_true h4]
    refine Ev.ifp h4 (Ev.bind (Ev.const (spec_RowsOk_eq l hb)) ?_)
    cases h5 : rowsB l
    · exact Ev.ifn (by decide) (hJ _ rfl)
    refine Ev.ifp rfl (Ev.step (fun k => by rw [spec_BlockOk.j0]) ?_)
    have hr := rowsB_at l h5
    by_cases h6 : 0 < l.length
    · rw [decide_eq_true h6]
      refine Ev.ifn (by simp only [beq_iff_eq]; omega) (Ev.bind (spec_l6First_ev l (bdW_len hb) (fun x hx => (hr x hx).2)) ?_)
      have hlo := of_decide_eq_true h1
      have I := insideB_iff l lo hi hr
      have F := firstF_ge l 10000 lo
      have L := lastF_lt l (-1) hi
      by_cases h7 : firstF 10000 l ≥ lo
      · refine Ev.ifp h7 (Ev.bind (spec_l6Last_ev l (bdW_len hb) (fun x hx => ⟨(hr x hx).2, (bdW_at hb hx).2⟩)) (Ev.some_ ?_))
        rw [← Bool.coe_iff_coe]
        simp only [decide_eq_true_eq, Bool.true_and]
        rw [I, L]
        exact ⟨fun h => ⟨(F.1 h7).2, h.2⟩, fun h => ⟨h3.2, h.2⟩⟩
      · refine Ev.ifn h7 (Ev.some_ ?_)
        symm
        simp only [Bool.true_and]
        rw [← Bool.not_eq_true, I]
        exact fun h => h7 (F.2 ⟨by omega, h.1⟩)
    · rw [decide_eq_false h6]
      exact Ev.ifp (by simp only [beq_iff_eq]; omega) (Ev.now _)
  · rw [decide_eq_false h4]
    exact Ev.ifn h4 (hJ _ rfl)
def In_Sample (x : S144) : Prop := True
def Bd_Sample (x : S87) : Prop := True
def cv_Sample (x : S144) : S87 := ⟨x.f0, x.f1⟩
theorem rdl_Sample (l : List S144) (i : Nat) : rd_T144 l (i : Int) = l.getD i z144 := rfl
theorem rdi_Sample (l : List S87) (i : Nat) : rd_T87 l (i : Int) = l.getD i z87 := rfl
theorem rdp_Sample (l : List S87) (i : Nat) (h : 0 < i) : rd_T87 l ((i : Int) - 1) = l.getD (i - 1) z87 := by
  unfold rd_T87
  congr 1
  omega
theorem cvbd_Sample (x : S144) (h : In_Sample x) : Bd_Sample (cv_Sample x) := trivial
theorem cvbds_Sample (l : List S144) (h : ∀ x ∈ l, In_Sample x) : ∀ y ∈ l.map cv_Sample, Bd_Sample y := fun y hy => by obtain ⟨u, hu, rfl⟩ := List.mem_map.1 hy; exact cvbd_Sample u (h u hu)
def In_Row (x : S105) : Prop := (x.f0.length ≤ 1048576 ∧ ∀ y ∈ x.f0, In_Label y) ∧ (x.f1.length ≤ 1048576 ∧ ∀ y ∈ x.f1, In_Sample y)
def Bd_Row (x : S107) : Prop := (x.f0.length ≤ 1048576 ∧ ∀ y ∈ x.f0, Bd_Label y) ∧ (x.f1.length ≤ 1048576 ∧ ∀ y ∈ x.f1, Bd_Sample y)
def cv_Row (x : S105) : S107 := ⟨x.f0.map cv_Label, x.f1.map cv_Sample⟩
theorem rdl_Row (l : List S105) (i : Nat) : rd_T105 l (i : Int) = l.getD i z105 := rfl
theorem rdi_Row (l : List S107) (i : Nat) : rd_T107 l (i : Int) = l.getD i z107 := rfl
theorem rdp_Row (l : List S107) (i : Nat) (h : 0 < i) : rd_T107 l ((i : Int) - 1) = l.getD (i - 1) z107 := by
  unfold rd_T107
  congr 1
  omega
theorem cvbd_Row (x : S105) (h : In_Row x) : Bd_Row (cv_Row x) := ⟨⟨by rw [show (cv_Row x).f0 = x.f0.map cv_Label from rfl, List.length_map]; exact h.1.1, fun y hy => by obtain ⟨u, hu, rfl⟩ := List.mem_map.1 hy; exact cvbd_Label u (h.1.2 u hu)⟩, ⟨by rw [show (cv_Row x).f1 = x.f1.map cv_Sample from rfl, List.length_map]; exact h.2.1, fun y hy => by obtain ⟨u, hu, rfl⟩ := List.mem_map.1 hy; exact cvbd_Sample u (h.2.2 u hu)⟩⟩
theorem cvbds_Row (l : List S105) (h : ∀ x ∈ l, In_Row x) : ∀ y ∈ l.map cv_Row, Bd_Row y := fun y hy => by obtain ⟨u, hu, rfl⟩ := List.mem_map.1 hy; exact cvbd_Row u (h u hu)
theorem sz_Label (x : S140) (hf : Fit140 x) (a : Int) (h0 : 0 ≤ a) (h1 : a ≤ 1048576) : ∃ r, Ev (fun k => laws_szLabel.f x.f0 x.f1 a) r ∧ (r = -1 ∨ (0 ≤ r ∧ r ≤ a ∧ In_Label x)) := by
  unfold laws_szLabel.f
  have hz0 : x.f0.size ≤ maxLen := hf.1
  have w0 : wrap64 (a - (x.f0.size : Int)) = a - (x.f0.size : Int) := wrap_sub (by omega) (by omega) hz0
  simp only [w0]
  by_cases c0 : a - (x.f0.size : Int) < 0
  · exact ⟨-1, Ev.ifp c0 (Ev.now _), .inl rfl⟩
  obtain ⟨b0, hb0⟩ : ∃ b, b = a - (x.f0.size : Int) := ⟨_, rfl⟩
  rw [← hb0] at c0
  simp only [← hb0]
  have hz1 : x.f1.size ≤ maxLen := hf.2
  have w1 : wrap64 (b0 - (x.f1.size : Int)) = b0 - (x.f1.size : Int) := wrap_sub (by omega) (by omega) hz1
  simp only [w1]
  by_cases c1 : b0 - (x.f1.size : Int) < 0
  · exact ⟨-1, Ev.ifn c0 (Ev.ifp c1 (Ev.now _)), .inl rfl⟩
  obtain ⟨b1, hb1⟩ : ∃ b, b = b0 - (x.f1.size : Int) := ⟨_, rfl⟩
  rw [← hb1] at c1
  simp only [← hb1]
  refine ⟨b1, Ev.ifn c0 (Ev.ifn c1 (Ev.now _)), .inr ⟨by omega, by omega, ⟨(show x.f0.size ≤ 1048576 by omega), (show x.f1.size ≤ 1048576 by omega)⟩⟩⟩
theorem szs_Label (l : List S140) (hf : FitList Fit140 l) (a : Int) (h0 : 0 ≤ a) (h1 : a ≤ 1048576) : ∃ r, Ev (fun k => laws_szLabelS.f k l a) r ∧ (r = -1 ∨ (0 ≤ r ∧ r ≤ a ∧ l.length ≤ 1048576 ∧ ∀ x ∈ l, In_Label x)) := by
  have w : wrap64 (a - (l.length : Int)) = a - (l.length : Int) := wrap_sub h0 (by omega) hf.1
  unfold laws_szLabelS.f
  simp only [w]
  by_cases c : a - (l.length : Int) < 0
  · exact ⟨-1, Ev.ifp c (Ev.now _), .inl rfl⟩
  have key : ∀ i, i ≤ l.length → ∀ b : Int, 0 ≤ b → b ≤ a → ∃ r, Ev (fun k => laws_szLabelS.l0 k l b (i : Int)) r ∧ (r = -1 ∨ (0 ≤ r ∧ r ≤ b ∧ ∀ x ∈ l.drop i, In_Label x)) := by
    refine from_index ?_ ?_
    · intro b hb0 hb1
      refine ⟨b, ?_, .inr ⟨hb0, Int.le_refl _, by rw [List.drop_length]; intro x hx; cases hx⟩⟩
      refine Ev.step (fun k => by rw [laws_szLabelS.l0]) ?_
      simp only [nat_nlt (Nat.le_refl _), if_false]
      exact Ev.now _
    · intro i hi ih b hb0 hb1
      obtain ⟨r1, e1, hr1⟩ := sz_Label l[i] (hf.2 _ (List.getElem_mem _)) b hb0 (by omega)
      rcases hr1 with hr1 | ⟨hr0, hrb, hin⟩
      · refine ⟨-1, ?_, .inl rfl⟩
        refine Ev.step (fun k => by rw [laws_szLabelS.l0]) ?_
        simp only [nat_lt hi, nat_pos, if_true, rdl_Label, getD_of hi]
        exact Ev.bind e1 (Ev.ifp (by omega) (Ev.now _))
      · obtain ⟨r2, e2, hr2⟩ := ih r1 hr0 (by omega)
        refine ⟨r2, ?_, ?_⟩
        · refine Ev.step (fun k => by rw [laws_szLabelS.l0]) ?_
          simp only [nat_lt hi, nat_pos, if_true, rdl_Label, getD_of hi, wrap_succ (show i < 9223372036854775807 by omega)]
          exact Ev.bind e1 (Ev.ifn (by omega) e2)
        · rcases hr2 with hr2 | ⟨h3, h4, h5⟩
          · exact .inl hr2
          · refine .inr ⟨h3, by omega, ?_⟩
            rw [drop_at hi]
            intro x hx
            rcases List.mem_cons.1 hx with rfl | hx
            · exact hin
            · exact h5 x hx
  obtain ⟨r, er, hr⟩ := key 0 (Nat.zero_le _) (a - (l.length : Int)) (by omega) (by omega)
  refine ⟨r, Ev.ifn c er, ?_⟩
  rcases hr with hr | ⟨h3, h4, h5⟩
  · exact .inl hr
  · exact .inr ⟨h3, by omega, by omega, by rwa [List.drop_zero] at h5⟩
theorem szs_Sample (l : List S144) (hf : FitList Fit144 l) (a : Int) (h0 : 0 ≤ a) (h1 : a ≤ 1048576) : ∃ r, Ev (fun k => laws_szSampleS.f l a) r ∧ (r = -1 ∨ (0 ≤ r ∧ r ≤ a ∧ l.length ≤ 1048576 ∧ ∀ x ∈ l, In_Sample x)) := by
  have w : wrap64 (a - (l.length : Int)) = a - (l.length : Int) := wrap_sub h0 (by omega) hf.1
  unfold laws_szSampleS.f
  simp only [w]
  by_cases c : a - (l.length : Int) < 0
  · exact ⟨-1, Ev.ifp c (Ev.now _), .inl rfl⟩
  · exact ⟨_, Ev.ifn c (Ev.now _), .inr ⟨by omega, by omega, by omega, fun x _ => trivial⟩⟩
theorem sz_Row (x : S105) (hf : Fit105 x) (a : Int) (h0 : 0 ≤ a) (h1 : a ≤ 1048576) : ∃ r, Ev (fun k => laws_szRow.f k x.f0 x.f1 a) r ∧ (r = -1 ∨ (0 ≤ r ∧ r ≤ a ∧ In_Row x)) := by
  unfold laws_szRow.f
  obtain ⟨r0, er0, hr0⟩ := szs_Label x.f0 hf.1 a (by omega) (by omega)
  rcases hr0 with hr0 | hr0
  · refine ⟨-1, ?_, .inl rfl⟩
    exact Ev.bind er0 (Ev.ifp (by omega) (Ev.now _))
  obtain ⟨r1, er1, hr1⟩ := szs_Sample x.f1 hf.2 r0 (by omega) (by omega)
  rcases hr1 with hr1 | hr1
  · refine ⟨-1, ?_, .inl rfl⟩
    exact Ev.bind er0 (Ev.ifn (by omega) (Ev.bind er1 (Ev.ifp (by omega) (Ev.now _))))
  refine ⟨r1, Ev.bind er0 (Ev.ifn (by omega) (Ev.bind er1 (Ev.ifn (by omega) (Ev.now _)))), .inr ⟨by omega, by omega, ⟨⟨hr0.2.2.1, hr0.2.2.2⟩, ⟨hr1.2.2.1, hr1.2.2.2⟩⟩⟩⟩
theorem szs_Row (l : List S105) (hf : FitList Fit105 l) (a : Int) (h0 : 0 ≤ a) (h1 : a ≤ 1048576) : ∃ r, Ev (fun k => laws_szRowS.f k l a) r ∧ (r = -1 ∨ (0 ≤ r ∧ r ≤ a ∧ l.length ≤ 1048576 ∧ ∀ x ∈ l, In_Row x)) := by
  have w : wrap64 (a - (l.length : Int)) = a - (l.length : Int) := wrap_sub h0 (by omega) hf.1
  unfold laws_szRowS.f
  simp only [w]
  by_cases c : a - (l.length : Int) < 0
  · exact ⟨-1, Ev.ifp c (Ev.now _), .inl rfl⟩
  have key : ∀ i, i ≤ l.length → ∀ b : Int, 0 ≤ b → b ≤ a → ∃ r, Ev (fun k => laws_szRowS.l0 k l b (i : Int)) r ∧ (r = -1 ∨ (0 ≤ r ∧ r ≤ b ∧ ∀ x ∈ l.drop i, In_Row x)) := by
    refine from_index ?_ ?_
    · intro b hb0 hb1
      refine ⟨b, ?_, .inr ⟨hb0, Int.le_refl _, by rw [List.drop_length]; intro x hx; cases hx⟩⟩
      refine Ev.step (fun k => by rw [laws_szRowS.l0]) ?_
      simp only [nat_nlt (Nat.le_refl _), if_false]
      exact Ev.now _
    · intro i hi ih b hb0 hb1
      obtain ⟨r1, e1, hr1⟩ := sz_Row l[i] (hf.2 _ (List.getElem_mem _)) b hb0 (by omega)
      rcases hr1 with hr1 | ⟨hr0, hrb, hin⟩
      · refine ⟨-1, ?_, .inl rfl⟩
        refine Ev.step (fun k => by rw [laws_szRowS.l0]) ?_
        simp only [nat_lt hi, nat_pos, if_true, rdl_Row, getD_of hi]
        exact Ev.bind e1 (Ev.ifp (by omega) (Ev.now _))
      · obtain ⟨r2, e2, hr2⟩ := ih r1 hr0 (by omega)
        refine ⟨r2, ?_, ?_⟩
        · refine Ev.step (fun k => by rw [laws_szRowS.l0]) ?_
          simp only [nat_lt hi, nat_pos, if_true, rdl_Row, getD_of hi, wrap_succ (show i < 9223372036854775807 by omega)]
          exact Ev.bind e1 (Ev.ifn (by omega) e2)
        · rcases hr2 with hr2 | ⟨h3, h4, h5⟩
          · exact .inl hr2
          · refine .inr ⟨h3, by omega, ?_⟩
            rw [drop_at hi]
            intro x hx
            rcases List.mem_cons.1 hx with rfl | hx
            · exact hin
            · exact h5 x hx
  obtain ⟨r, er, hr⟩ := key 0 (Nat.zero_le _) (a - (l.length : Int)) (by omega) (by omega)
  refine ⟨r, Ev.ifn c er, ?_⟩
  rcases hr with hr | ⟨h3, h4, h5⟩
  · exact .inl hr
  · exact .inr ⟨h3, by omega, by omega, by rwa [List.drop_zero] at h5⟩
theorem to_Label (x : S140) (h : In_Label x) : Ev (fun k => laws_toLabel.f x.f0 x.f1) ((cv_Label x).f0, (cv_Label x).f1) := Ev.const rfl
theorem tos_Label (l : List S140) (hl : l.length ≤ 1048576) (h : ∀ x ∈ l, In_Label x) : Ev (fun k => laws_toLabelS.f k l) (l.map cv_Label) := by
  have hm : (l.map cv_Label).length = l.length := List.length_map _
  have key : ∀ i, i ≤ l.length → Ev (fun k => laws_toLabelS.l0 k l (fillTo (l.map cv_Label) z119 i) (i : Int)) (l.map cv_Label) := by
    refine from_index ?_ ?_
    · refine Ev.step (fun k => by rw [laws_toLabelS.l0]) ?_
      simp only [nat_nlt (Nat.le_refl _), if_false]
      exact Ev.const (by rw [← hm, fillTo_all])
    · intro i hi ih
      refine Ev.step (fun k => by rw [laws_toLabelS.l0]) ?_
      have e : (fillTo (l.map cv_Label) z119 i).length = l.length := by rw [fillTo_length _ _ _ (by omega), hm]
      simp only [nat_lt hi, nat_pos, if_true, rdl_Label, getD_of hi, wrap_succ (show i < 9223372036854775807 by omega), e, Int.toNat_natCast]
      refine Ev.bind (to_Label l[i] (h _ (List.getElem_mem _))) ?_
      have s := fillTo_set (l.map cv_Label) z119 i (by omega)
      rw [List.getElem_map] at s
      show Ev (fun k => laws_toLabelS.l0 k l ((fillTo (l.map cv_Label) z119 i).set i (cv_Label l[i])) ((i + 1 : Nat) : Int)) _
      rw [s]
      exact ih
  unfold laws_toLabelS.f
  refine Ev.ifp (by omega) (Ev.ifp (by simp; omega) ?_)
  have := key 0 (Nat.zero_le _)
  rw [fillTo_zero, hm] at this
  simp only [Int.toNat_natCast]
  exact this
theorem to_Sample (x : S144) (h : In_Sample x) : Ev (fun k => laws_toSample.f x.f0 x.f1) ((cv_Sample x).f0, (cv_Sample x).f1) := Ev.const rfl
theorem tos_Sample (l : List S144) (hl : l.length ≤ 1048576) (h : ∀ x ∈ l, In_Sample x) : Ev (fun k => laws_toSampleS.f k l) (l.map cv_Sample) := by
  have hm : (l.map cv_Sample).length = l.length := List.length_map _
  have key : ∀ i, i ≤ l.length → Ev (fun k => laws_toSampleS.l0 k l (fillTo (l.map cv_Sample) z87 i) (i : Int)) (l.map cv_Sample) := by
    refine from_index ?_ ?_
    · refine Ev.step (fun k => by rw [laws_toSampleS.l0]) ?_
      simp only [nat_nlt (Nat.le_refl _), if_false]
      exact Ev.const (by rw [← hm, fillTo_all])
    · intro i hi ih
      refine Ev.step (fun k => by rw [laws_toSampleS.l0]) ?_
      have e : (fillTo (l.map cv_Sample) z87 i).length = l.length := by rw [fillTo_length _ _ _ (by omega), hm]
      simp only [nat_lt hi, nat_pos, if_true, rdl_Sample, getD_of hi, wrap_succ (show i < 9223372036854775807 by omega), e, Int.toNat_natCast]
      refine Ev.bind (to_Sample l[i] (h _ (List.getElem_mem _))) ?_
      have s := fillTo_set (l.map cv_Sample) z87 i (by omega)
      rw [List.getElem_map] at s
      show Ev (fun k => laws_toSampleS.l0 k l ((fillTo (l.map cv_Sample) z87 i).set i (cv_Sample l[i])) ((i + 1 : Nat) : Int)) _
      rw [s]
      exact ih
  unfold laws_toSampleS.f
  refine Ev.ifp (by omega) (Ev.ifp (by simp; omega) ?_)
  have := key 0 (Nat.zero_le _)
  rw [fillTo_zero, hm] at this
  simp only [Int.toNat_natCast]
  exact this
theorem to_Row (x : S105) (h : In_Row x) : Ev (fun k => laws_toRow.f k x.f0 x.f1) ((cv_Row x).f0, (cv_Row x).f1) := by
  unfold laws_toRow.f
  refine Ev.bind (tos_Label x.f0 h.1.1 h.1.2) ?_
  refine Ev.bind (tos_Sample x.f1 h.2.1 h.2.2) ?_
  exact Ev.now _
theorem tos_Row (l : List S105) (hl : l.length ≤ 1048576) (h : ∀ x ∈ l, In_Row x) : Ev (fun k => laws_toRowS.f k l) (l.map cv_Row) := by
  have hm : (l.map cv_Row).length = l.length := List.length_map _
  have key : ∀ i, i ≤ l.length → Ev (fun k => laws_toRowS.l0 k l (fillTo (l.map cv_Row) z107 i) (i : Int)) (l.map cv_Row) := by
    refine from_index ?_ ?_
    · refine Ev.step (fun k => by rw [laws_toRowS.l0]) ?_
      simp only [nat_nlt (Nat.le_refl _), if_false]
      exact Ev.const (by rw [← hm, fillTo_all])
    · intro i hi ih
      refine Ev.step (fun k => by rw [laws_toRowS.l0]) ?_
      have e : (fillTo (l.map cv_Row) z107 i).length = l.length := by rw [fillTo_length _ _ _ (by omega), hm]
      simp only [nat_lt hi, nat_pos, if_true, rdl_Row, getD_of hi, wrap_succ (show i < 9223372036854775807 by omega), e, Int.toNat_natCast]
      refine Ev.bind (to_Row l[i] (h _ (List.getElem_mem _))) ?_
      have s := fillTo_set (l.map cv_Row) z107 i (by omega)
      rw [List.getElem_map] at s
      show Ev (fun k => laws_toRowS.l0 k l ((fillTo (l.map cv_Row) z107 i).set i (cv_Row l[i])) ((i + 1 : Nat) : Int)) _
      rw [s]
      exact ih
  unfold laws_toRowS.f
  refine Ev.ifp (by omega) (Ev.ifp (by simp; omega) ?_)
  have := key 0 (Nat.zero_le _)
  rw [fillTo_zero, hm] at this
  simp only [Int.toNat_natCast]
  exact this
theorem eq_Label (x : S119) (h : Bd_Label x) : Ev (fun k => laws_eqLabel.f x.f0 x.f1 x.f0 x.f1) true := by
  refine Ev.const ?_
  simp [laws_eqLabel.f]
theorem eqs_Label (l : List S119) (hl : l.length < 9223372036854775807) (h : ∀ x ∈ l, Bd_Label x) : Ev (fun k => laws_eqLabelS.f k l l) true := by
  have key : ∀ i, i ≤ l.length → Ev (fun k => laws_eqLabelS.l0 k l l (i : Int)) true := by
    refine from_index ?_ ?_
    · refine Ev.step (fun k => by rw [laws_eqLabelS.l0]) ?_
      simp only [nat_nlt (Nat.le_refl _), if_false]
      exact Ev.now _
    · intro i hi ih
      refine Ev.step (fun k => by rw [laws_eqLabelS.l0]) ?_
      simp only [nat_lt hi, nat_pos, if_true, rdi_Label, getD_of hi, wrap_succ (show i < 9223372036854775807 by omega)]
      refine Ev.bind (eq_Label l[i] (h _ (List.getElem_mem _))) (Ev.ifp rfl ?_)
      exact ih
  unfold laws_eqLabelS.f
  refine Ev.ifp rfl ?_
  exact key 0 (Nat.zero_le _)
theorem eq_Sample (x : S87) (h : Bd_Sample x) : Ev (fun k => laws_eqSample.f x.f0 x.f1 x.f0 x.f1) true := by
  refine Ev.const ?_
  simp [laws_eqSample.f]
theorem eqs_Sample (l : List S87) (hl : l.length < 9223372036854775807) (h : ∀ x ∈ l, Bd_Sample x) : Ev (fun k => laws_eqSampleS.f k l l) true := by
  have key : ∀ i, i ≤ l.length → Ev (fun k => laws_eqSampleS.l0 k l l (i : Int)) true := by
    refine from_index ?_ ?_
    · refine Ev.step (fun k => by rw [laws_eqSampleS.l0]) ?_
      simp only [nat_nlt (Nat.le_refl _), if_false]
      exact Ev.now _
    · intro i hi ih
      refine Ev.step (fun k => by rw [laws_eqSampleS.l0]) ?_
      simp only [nat_lt hi, nat_pos, if_true, rdi_Sample, getD_of hi, wrap_succ (show i < 9223372036854775807 by omega)]
      refine Ev.bind (eq_Sample l[i] (h _ (List.getElem_mem _))) (Ev.ifp rfl ?_)
      exact ih
  unfold laws_eqSampleS.f
  refine Ev.ifp rfl ?_
  exact key 0 (Nat.zero_le _)
theorem eq_Row (x : S107) (h : Bd_Row x) : Ev (fun k => laws_eqRow.f k x.f0 x.f1 x.f0 x.f1) true := by
  unfold laws_eqRow.f
  refine Ev.bind (eqs_Label x.f0 (by have := h.1.1; omega) h.1.2) (Ev.ifp rfl ?_)
  refine Ev.bind (eqs_Sample x.f1 (by have := h.2.1; omega) h.2.2) (Ev.ifp rfl ?_)
  exact Ev.now _
theorem eqs_Row (l : List S107) (hl : l.length < 9223372036854775807) (h : ∀ x ∈ l, Bd_Row x) : Ev (fun k => laws_eqRowS.f k l l) true := by
  have key : ∀ i, i ≤ l.length → Ev (fun k => laws_eqRowS.l0 k l l (i : Int)) true := by
    refine from_index ?_ ?_
    · refine Ev.step (fun k => by rw [laws_eqRowS.l0]) ?_
      simp only [nat_nlt (Nat.le_refl _), if_false]
      exact Ev.now _
    · intro i hi ih
      refine Ev.step (fun k => by rw [laws_eqRowS.l0]) ?_
      simp only [nat_lt hi, nat_pos, if_true, rdi_Row, getD_of hi, wrap_succ (show i < 9223372036854775807 by omega)]
      refine Ev.bind (eq_Row l[i] (h _ (List.getElem_mem _))) (Ev.ifp rfl ?_)
      exact ih
  unfold laws_eqRowS.f
  refine Ev.ifp rfl ?_
  exact key 0 (Nat.zero_le _)

theorem bdI_of (l : List Rw) (hl : l.length ≤ 1048576) (h : ∀ x ∈ l, x.f1.length ≤ 1048576) : bdI l = true := by
  unfold bdI
  rw [decide_eq_true (show l.length < 9223372036854775807 by omega), Bool.true_and]
  exact List.all_eq_true.2 fun x hx => decide_eq_true (h x hx)
theorem FnExactBlockOk : laws_FnExactBlockOk.Pure := by
  intro x hf
  apply Ev.rounds
  unfold laws_FnExactBlockOk.f
  obtain ⟨r, er, hr⟩ := szs_Row x.f2 hf.2.2 1048576 (by omega) (by omega)
  have SZ : ∀ q : Int, (if r < 0 then (-1 : Int) else r) = q → Ev (fun k => laws_szBlock.f k x.f0 x.f1 x.f2 1048576) q := by
    rintro q rfl
    unfold laws_szBlock.f
    refine Ev.bind er ?_
    by_cases c : r < 0
    · have e : (if r < 0 then (-1 : Int) else r) = -1 := if_pos c
      rw [e]
      exact Ev.ifp c (Ev.now _)
    · have e : (if r < 0 then (-1 : Int) else r) = r := if_neg c
      rw [e]
      exact Ev.ifn c (Ev.now _)
  refine Ev.bind (SZ _ rfl) ?_
  rcases hr with hr | ⟨g0, g1, hl, hin⟩
  · rw [if_pos (by omega)]
    exact Ev.ifp (by omega) (Ev.now _)
  rw [if_neg (by omega)]
  refine Ev.ifn (by omega) ?_
  have hm : (x.f2.map cv_Row).length = x.f2.length := List.length_map _
  have bR := cvbds_Row x.f2 hin
  have T : Ev (fun k => laws_toBlock.f k x.f0 x.f1 x.f2) (x.f0, x.f1, x.f2.map cv_Row) := by
    unfold laws_toBlock.f
    exact Ev.bind (tos_Row x.f2 hl hin) (Ev.now _)
  have hb : bdW (x.f2.map cv_Row) = true := bdW_of _ (by omega) (fun y hy => ⟨bdL_of _ (bR y hy).1.1 (bR y hy).1.2, (bR y hy).2.1⟩)
  have hi : bdI (x.f2.map cv_Row) = true := bdI_of _ (by omega) (fun y hy => (bR y hy).2.1)
  refine Ev.bind T (Ev.bind (spec_BlockOk_ev _ _ _ hb (fitInt_i64 hf.2.1)) (Ev.bind T (Ev.bind (impl_BlockOk_ev _ _ _ hb hi) (Ev.ifn (by simp) ?_))))
  refine Ev.bind T (Ev.bind (a := true) ?_ (Ev.ifp rfl (Ev.now _)))
  unfold laws_eqBlock.f
  exact Ev.ifp rfl (Ev.ifp rfl (Ev.bind (eqs_Row _ (by show (x.f2.map cv_Row).length < _; omega) bR) (Ev.ifp rfl (Ev.now _))))

end Go.Proofs.Ytfipeogppcllnaa.Pure
