/- The program's MatchesLet answers as the reference's, for every list of matches and of labels; no condition. -/
import Derived.Test.YtipbllegjcedgaaFitFnExactMatchesLet
import Derived.Test.YtipbllegjcedgaaWOwn
set_option linter.unusedVariables false
set_option linter.unusedSimpArgs false
namespace Go.Proofs.Ytipbllegjcedgaa.Pure
open Go.RowKit Go.Proofs.Ytipbllegjcedgaa.QFnExactMatchesLet Go.Proofs.YtipbllegjcedgaaW.PrintWords Go.Proofs.YtipbllegjcedgaaW.PrintLast Go.Proofs.YtipbllegjcedgaaW.Own

theorem nat_lt {i n : Nat} (h : i < n) : ((i : Int) < (n : Int)) = True := by simp [h]
theorem nat_nlt {i n : Nat} (h : n ≤ i) : ((i : Int) < (n : Int)) = False := by simp [h]
theorem nat_pos (i : Nat) : (0 ≤ (i : Int)) = True := by simp
theorem wrap_succ {i : Nat} (h : i < 9223372036854775807) : wrap64 ((i : Int) + 1) = ((i + 1 : Nat) : Int) := by unfold wrap64; omega
theorem wrap_pred {i : Nat} (h : i < 9223372036854775807) : wrap64 ((i : Int) - 1) = (i : Int) - 1 := by unfold wrap64; omega
theorem wrap_sub {a : Int} {n : Nat} (h0 : 0 ≤ a) (h1 : a ≤ 9223372036854775807) (hn : n ≤ maxLen) : wrap64 (a - (n : Int)) = a - (n : Int) := by unfold wrap64; unfold maxLen at hn; omega
theorem rd_nat (l : List Int) (i : Nat) : rd l (i : Int) = l.getD i 0 := rfl
theorem getD_of {α : Type} {l : List α} {i : Nat} (h : i < l.length) (d : α) : l.getD i d = l[i] := by simp [List.getD, List.getElem?_eq_getElem h]
theorem drop_at {α : Type} {l : List α} {i : Nat} (h : i < l.length) : l.drop i = l[i] :: l.drop (i + 1) := List.drop_eq_getElem_cons h
theorem bt_nat (s : ByteArray) (i : Nat) (h : i < s.size) : bt s (i : Int) = ((s[i]'h).toNat : Int) := by
  unfold bt
  have : (i : Int).toNat = i := by omega
  simp [h]
/-- From an index on: at the end, and one round. -/
theorem from_index {P : Nat → Prop} {n : Nat} (h0 : P n) (h1 : ∀ i, i < n → P (i + 1) → P i) : ∀ i, i ≤ n → P i := by
  have key : ∀ d i, i + d = n → P i := by
    intro d
    induction d with
    | zero => intro i h; obtain rfl : i = n := by omega
              exact h0
    | succ d ih => intro i h; exact h1 i (by omega) (ih (i + 1) (by omega))
  intro i hi
  exact key (n - i) i (by omega)
/-- A row that is filled from the front. -/
def fillTo {α : Type} (xs : List α) (z : α) (i : Nat) : List α := xs.take i ++ List.replicate (xs.length - i) z
theorem fillTo_length {α : Type} (xs : List α) (z : α) (i : Nat) (h : i ≤ xs.length) : (fillTo xs z i).length = xs.length := by
  unfold fillTo; rw [List.length_append, List.length_take, List.length_replicate]; omega
theorem fillTo_zero {α : Type} (xs : List α) (z : α) : fillTo xs z 0 = List.replicate xs.length z := by simp [fillTo]
theorem fillTo_all {α : Type} (xs : List α) (z : α) : fillTo xs z xs.length = xs := by simp [fillTo]
theorem fillTo_set {α : Type} (xs : List α) (z : α) (i : Nat) (h : i < xs.length) : (fillTo xs z i).set i xs[i] = fillTo xs z (i + 1) := by
  unfold fillTo
  have hl : (xs.take i).length = i := by rw [List.length_take]; omega
  have e : xs.length - i = (xs.length - (i + 1)) + 1 := by omega
  rw [e, List.replicate_succ, List.set_append_right _ _ (by omega), hl, Nat.sub_self, List.set_cons_zero, List.take_succ_eq_append_getElem h, List.append_assoc]
  rfl
theorem spec_l1In_eq (a b c : Int) : spec_l1In.f a b c = some (decide (b ≤ a ∧ a ≤ c)) := by
  unfold spec_l1In.f
  by_cases h : a ≥ b
  · rw [if_pos h]
    have h' : b ≤ a := h
    simp [h']
  · rw [if_neg h]
    have h' : ¬ b ≤ a := h
    simp [h']
def In_Match (x : S75) : Prop := x.f1.size ≤ 1048576 ∧ x.f2.size ≤ 1048576
def Bd_Match (x : S48) : Prop := x.f1.size ≤ 1048576 ∧ x.f2.size ≤ 1048576
def cv_Match (x : S75) : S48 := ⟨x.f0, x.f1, x.f2⟩
theorem rdl_Match (l : List S75) (i : Nat) : rd_T75 l (i : Int) = l.getD i z75 := rfl
theorem rdi_Match (l : List S48) (i : Nat) : rd_T48 l (i : Int) = l.getD i z48 := rfl
theorem rdp_Match (l : List S48) (i : Nat) (h : 0 < i) : rd_T48 l ((i : Int) - 1) = l.getD (i - 1) z48 := by
  unfold rd_T48
  congr 1
  omega
theorem cvbd_Match (x : S75) (h : In_Match x) : Bd_Match (cv_Match x) := ⟨h.1, h.2⟩
theorem cvbds_Match (l : List S75) (h : ∀ x ∈ l, In_Match x) : ∀ y ∈ l.map cv_Match, Bd_Match y := fun y hy => by obtain ⟨u, hu, rfl⟩ := List.mem_map.1 hy; exact cvbd_Match u (h u hu)
theorem bdM_of (l : List Mch) (hl : l.length ≤ 1048576) (h : ∀ x ∈ l, Bd_Match x) : bdM l = true := by
  unfold bdM
  rw [decide_eq_true (show l.length < 9223372036854775807 by omega), Bool.true_and]
  refine List.all_eq_true.2 fun x hx => ?_
  have hb := h x hx
  unfold Bd_Match at hb
  simp only [bdS, decide_eq_true (show x.f1.size < 9223372036854775807 by omega), decide_eq_true (show x.f2.size < 9223372036854775807 by omega), Bool.and_self]
theorem impl_MatchesOk_eq (l : List Mch) (h : bdM l = true) : impl_MatchesOk.f l = some (mchsB l) := by unfold impl_MatchesOk.f; rw [if_pos h]
theorem spec_MatchesOk_ev (l : List Mch) (hb : bdM l = true) : Ev (fun k => spec_MatchesOk.f k l) (mchsB l) := by
  have hn := bdM_len hb
  have key : ∀ i, i ≤ l.length → Ev (fun k => spec_MatchesOk.l0 k l (i : Int)) ((l.drop i).all mchB && decide (l.length ≤ 4)) := by
    refine from_index ?_ ?_
    · refine Ev.step (fun k => by rw [spec_MatchesOk.l0]) ?_
      refine Ev.ifn (by omega) (Ev.some_ ?_)
      rw [List.drop_length, List.all_nil, Bool.true_and]
      exact decide_eq_decide.mpr (by omega)
    · intro i hi ih
      refine Ev.step (fun k => by rw [spec_MatchesOk.l0]) ?_
      refine Ev.ifp (by omega) (Ev.ifp (by omega) ?_)
      have e : rd_T48 l (i : Int) = l[i] := by unfold rd_T48; rw [Int.toNat_natCast, getD_of hi]
      obtain ⟨h1, h2⟩ := bdM_at hb (List.getElem_mem hi)
      rw [e, wrap_succ (show i < 9223372036854775807 by omega), drop_at hi, List.all_cons]
      have hN : spec_l3Name.f l[i].f1 = some (lettersB l[i].f1 6 && (l[i].f1.toList != [])) := by unfold spec_l3Name.f; rw [if_pos h1]
      have hW : spec_l3Letters.f l[i].f2 8 = some (lettersB l[i].f2 8) := by unfold spec_l3Letters.f; rw [if_pos h2]
      have hm : mchB l[i] = ((decide (1 ≤ l[i].f0) && decide (l[i].f0 ≤ 4)) && (lettersB l[i].f1 6 && (l[i].f1.toList != [])) && lettersB l[i].f2 8) := rfl
      rw [hm]
      refine Ev.bind (Ev.const (spec_l1In_eq _ _ _)) ?_
      by_cases c1 : 1 ≤ l[i].f0 ∧ l[i].f0 ≤ 4
      · rw [decide_eq_true c1, decide_eq_true c1.1, decide_eq_true c1.2]
        refine Ev.ifp rfl (Ev.bind (Ev.const hN) ?_)
        cases c2 : (lettersB l[i].f1 6 && (l[i].f1.toList != []))
        · exact Ev.ifn (by decide) (Ev.now _)
        · refine Ev.ifp rfl (Ev.bind (Ev.const hW) ?_)
          cases c3 : lettersB l[i].f2 8
          · exact Ev.ifn (by decide) (Ev.now _)
          · exact Ev.ifp rfl ih
      · rw [decide_eq_false c1]
        have c0 : (decide (1 ≤ l[i].f0) && decide (l[i].f0 ≤ 4)) = false := by
          by_cases h1 : 1 ≤ l[i].f0
          · rw [decide_eq_true h1, decide_eq_false (by omega)]; rfl
          · rw [decide_eq_false h1]; rfl
        rw [c0]
        exact Ev.ifn (by decide) (Ev.now _)
  unfold spec_MatchesOk.f
  have := key 0 (Nat.zero_le _)
  rw [List.drop_zero, Bool.and_comm] at this
  exact this
def In_Label (x : S62) : Prop := x.f0.size ≤ 1048576 ∧ x.f1.size ≤ 1048576
def Bd_Label (x : S52) : Prop := x.f0.size ≤ 1048576 ∧ x.f1.size ≤ 1048576
def cv_Label (x : S62) : S52 := ⟨x.f0, x.f1⟩
theorem rdl_Label (l : List S62) (i : Nat) : rd_T62 l (i : Int) = l.getD i z62 := rfl
theorem rdi_Label (l : List S52) (i : Nat) : rd_T52 l (i : Int) = l.getD i z52 := rfl
theorem rdp_Label (l : List S52) (i : Nat) (h : 0 < i) : rd_T52 l ((i : Int) - 1) = l.getD (i - 1) z52 := by
  unfold rd_T52
  congr 1
  omega
theorem cvbd_Label (x : S62) (h : In_Label x) : Bd_Label (cv_Label x) := ⟨h.1, h.2⟩
theorem cvbds_Label (l : List S62) (h : ∀ x ∈ l, In_Label x) : ∀ y ∈ l.map cv_Label, Bd_Label y := fun y hy => by obtain ⟨u, hu, rfl⟩ := List.mem_map.1 hy; exact cvbd_Label u (h u hu)
theorem bdL_of (l : List Lbl) (hl : l.length ≤ 1048576) (h : ∀ x ∈ l, Bd_Label x) : bdL l = true := by
  unfold bdL
  rw [decide_eq_true (show l.length < 9223372036854775807 by omega), Bool.true_and]
  refine List.all_eq_true.2 fun x hx => ?_
  have hb := h x hx
  unfold Bd_Label at hb
  simp only [bdS, decide_eq_true (show x.f0.size < 9223372036854775807 by omega), decide_eq_true (show x.f1.size < 9223372036854775807 by omega), Bool.and_self]
theorem spec_LabelsOk_eq (l : List Lbl) (h : bdL l = true) : spec_LabelsOk.f l = some (labelsB l) := by unfold spec_LabelsOk.f; rw [if_pos h]
theorem impl_LabelsOk_eq (l : List Lbl) (h : bdL l = true) : impl_LabelsOk.f l = some (labelsB l) := by unfold impl_LabelsOk.f; rw [if_pos h]
theorem rdL (l : List Lbl) {i : Nat} (h : i < l.length) : rd_T52 l (i : Int) = l[i] := by unfold rd_T52; rw [Int.toNat_natCast, getD_of h]
theorem rdM (l : List Mch) {i : Nat} (h : i < l.length) : rd_T48 l (i : Int) = l[i] := by unfold rd_T48; rw [Int.toNat_natCast, getD_of h]
theorem spec_l3Word_ev (l : List Lbl) (n : ByteArray) (hn : l.length < 9223372036854775807) : Ev (fun k => spec_l3Word.f k l n) (wordL l n) := by
  have key : ∀ i, i ≤ l.length → Ev (fun k => spec_l3Word.l0 k l n (i : Int)) (wordL (l.drop i) n) := by
    refine from_index ?_ ?_
    · refine Ev.step (fun k => by rw [spec_l3Word.l0]) ?_
      refine Ev.ifn (by omega) (Ev.some_ ?_)
      rw [List.drop_length]; rfl
    · intro i hi ih
      refine Ev.step (fun k => by rw [spec_l3Word.l0]) ?_
      refine Ev.ifp (by omega) (Ev.ifp (by omega) ?_)
      rw [rdL l hi, wrap_succ (show i < 9223372036854775807 by omega), List.drop_eq_getElem_cons hi, wordL]
      by_cases c : l[i].f0.toList = n.toList
      · rw [if_pos (beq_iff_eq.mpr c)]
        exact Ev.ifp c (Ev.now _)
      · rw [if_neg (by rw [beq_iff_eq]; exact c)]
        exact Ev.ifn c ih
  unfold spec_l3Word.f
  have := key 0 (Nat.zero_le _)
  rw [List.drop_zero] at this
  exact this
theorem spec_l3Let_ev (m : Mch) (l : List Lbl) (hn : l.length < 9223372036854775807) : Ev (fun k => spec_l3Let.f k m.f0 m.f1 m.f2 l) (letB m.f0 m.f2 (wordL l m.f1)) := by
  unfold spec_l3Let.f
  refine Ev.bind (spec_l3Word_ev l m.f1 hn) ?_
  have fin : ∀ (w p : ByteArray) (b : Bool), b = preB w p → Ev (fun k => spec_l3Let.j0 k w b m.f0 m.f1 p) (letB m.f0 p w) := by
    intro w p b hb
    refine Ev.step (fun k => by rw [spec_l3Let.j0]) ?_
    by_cases c1 : m.f0 = 1
    · rw [show letB m.f0 p w = (w.toList == p.toList) by unfold letB; rw [if_pos c1]]
      exact Ev.ifp c1 (Ev.now _)
    refine Ev.ifn c1 ?_
    by_cases c2 : m.f0 = 2
    · rw [show letB m.f0 p w = (!(w.toList == p.toList)) by unfold letB; rw [if_neg c1, if_pos c2]]
      exact Ev.ifp c2 (Ev.some_ rfl)
    refine Ev.ifn c2 ?_
    by_cases c3 : m.f0 = 3
    · rw [show letB m.f0 p w = preB w p by unfold letB; rw [if_neg c1, if_neg c2, if_pos c3]]
      exact Ev.ifp c3 (Ev.some_ hb)
    rw [show letB m.f0 p w = !preB w p by unfold letB; rw [if_neg c1, if_neg c2, if_neg c3]]
    exact Ev.ifn c3 (Ev.some_ (by rw [hb]))
  by_cases c : (m.f2.size : Int) ≤ ((wordL l m.f1).size : Int)
  · refine Ev.ifp c (Ev.ifp (by omega) (Ev.ifp c (fin _ _ _ ?_)))
    unfold preB
    rw [decide_eq_true (show m.f2.size ≤ (wordL l m.f1).size by omega), Bool.true_and, Int.toNat_natCast]
  · refine Ev.ifn c (fin _ _ _ ?_)
    unfold preB
    rw [decide_eq_false (show ¬ m.f2.size ≤ (wordL l m.f1).size by omega), Bool.false_and]
theorem spec_l3Lets_ev (l0 : List Mch) (l1 : List Lbl) (h0 : l0.length < 9223372036854775807) (hn : l1.length < 9223372036854775807) : Ev (fun k => spec_l3Lets.f k l0 l1) (letsB l0 l1) := by
  have key : ∀ i, i ≤ l0.length → Ev (fun k => spec_l3Lets.l0 k l0 l1 (i : Int)) (letsB (l0.drop i) l1) := by
    refine from_index ?_ ?_
    · refine Ev.step (fun k => by rw [spec_l3Lets.l0]) ?_
      refine Ev.ifn (by omega) (Ev.some_ ?_)
      rw [List.drop_length]; rfl
    · intro i hi ih
      refine Ev.step (fun k => by rw [spec_l3Lets.l0]) ?_
      refine Ev.ifp (by omega) (Ev.ifp (by omega) ?_)
      rw [rdM l0 hi, wrap_succ (show i < 9223372036854775807 by omega), List.drop_eq_getElem_cons hi]
      refine Ev.bind (spec_l3Let_ev l0[i] l1 hn) ?_
      show Ev _ (letB l0[i].f0 l0[i].f2 (wordL l1 l0[i].f1) && letsB (l0.drop (i + 1)) l1)
      cases letB l0[i].f0 l0[i].f2 (wordL l1 l0[i].f1)
      · exact Ev.ifn (by decide) (Ev.now _)
      · exact Ev.ifp rfl ih
  unfold spec_l3Lets.f
  have := key 0 (Nat.zero_le _)
  rw [List.drop_zero] at this
  exact this
theorem kinds_of {l : List Mch} (h : mchsB l = true) : kindsB l = true := by
  unfold mchsB at h
  have h2 := (Bool.and_eq_true _ _ ▸ h).2
  refine List.all_eq_true.2 fun x hx => ?_
  have h3 := List.all_eq_true.1 h2 x hx
  unfold mchB at h3
  rw [Bool.and_eq_true, Bool.and_eq_true] at h3
  exact h3.1.1
theorem impl_let_eq (l0 : List Mch) (l1 : List Lbl) (h0 : l0.length < 9223372036854775807) (hn : l1.length < 9223372036854775807) (hk : kindsB l0 = true) : impl_let.f l0 l1 = some (letsB l0 l1) := by
  unfold impl_let.f
  rw [if_pos ⟨h0, hn, hk⟩]
def matchesLetV (l0 : List Mch) (l1 : List Lbl) : Bool := mchsB l0 && (labelsB l1 && letsB l0 l1)
theorem spec_MatchesLet_ev (l0 : List Mch) (l1 : List Lbl) (h0 : bdM l0 = true) (h1 : bdL l1 = true) : Ev (fun k => spec_MatchesLet.f k l0 l1) (matchesLetV l0 l1) := by
  unfold spec_MatchesLet.f matchesLetV
  refine Ev.bind (spec_MatchesOk_ev l0 h0) ?_
  cases mchsB l0
  · exact Ev.ifn (by decide) (Ev.now _)
  refine Ev.ifp rfl (Ev.bind (Ev.const (spec_LabelsOk_eq l1 h1)) ?_)
  cases labelsB l1
  · exact Ev.ifn (by decide) (Ev.now _)
  exact Ev.ifp rfl (Ev.bind (spec_l3Lets_ev l0 l1 (bdM_len h0) (bdL_len h1)) (Ev.now _))
theorem impl_MatchesLet_eq (l0 : List Mch) (l1 : List Lbl) (h0 : bdM l0 = true) (h1 : bdL l1 = true) : impl_MatchesLet.f l0 l1 = some (matchesLetV l0 l1) := by
  unfold impl_MatchesLet.f matchesLetV
  rw [impl_MatchesOk_eq l0 h0]
  cases c : mchsB l0
  · rfl
  rw [Option.bind_some, if_pos rfl, impl_LabelsOk_eq l1 h1]
  cases labelsB l1
  · rfl
  rw [Option.bind_some, if_pos rfl, impl_let_eq l0 l1 (bdM_len h0) (bdL_len h1) (kinds_of c)]
  rfl
theorem sz_Match (x : S75) (hf : Fit75 x) (a : Int) (h0 : 0 ≤ a) (h1 : a ≤ 1048576) : ∃ r, Ev (fun k => laws_szMatch.f x.f0 x.f1 x.f2 a) r ∧ (r = -1 ∨ (0 ≤ r ∧ r ≤ a ∧ In_Match x)) := by
  unfold laws_szMatch.f
  have hz1 : x.f1.size ≤ maxLen := hf.2.1
  have w1 : wrap64 (a - (x.f1.size : Int)) = a - (x.f1.size : Int) := wrap_sub (by omega) (by omega) hz1
  simp only [w1]
  by_cases c1 : a - (x.f1.size : Int) < 0
  · exact ⟨-1, Ev.ifp c1 (Ev.now _), .inl rfl⟩
  obtain ⟨b1, hb1⟩ : ∃ b, b = a - (x.f1.size : Int) := ⟨_, rfl⟩
  rw [← hb1] at c1
  simp only [← hb1]
  have hz2 : x.f2.size ≤ maxLen := hf.2.2
  have w2 : wrap64 (b1 - (x.f2.size : Int)) = b1 - (x.f2.size : Int) := wrap_sub (by omega) (by omega) hz2
  simp only [w2]
  by_cases c2 : b1 - (x.f2.size : Int) < 0
  · exact ⟨-1, Ev.ifn c1 (Ev.ifp c2 (Ev.now _)), .inl rfl⟩
  obtain ⟨b2, hb2⟩ : ∃ b, b = b1 - (x.f2.size : Int) := ⟨_, rfl⟩
  rw [← hb2] at c2
  simp only [← hb2]
  refine ⟨b2, Ev.ifn c1 (Ev.ifn c2 (Ev.now _)), .inr ⟨by omega, by omega, ⟨(show x.f1.size ≤ 1048576 by omega), (show x.f2.size ≤ 1048576 by omega)⟩⟩⟩
theorem szs_Match (l : List S75) (hf : FitList Fit75 l) (a : Int) (h0 : 0 ≤ a) (h1 : a ≤ 1048576) : ∃ r, Ev (fun k => laws_szMatchS.f k l a) r ∧ (r = -1 ∨ (0 ≤ r ∧ r ≤ a ∧ l.length ≤ 1048576 ∧ ∀ x ∈ l, In_Match x)) := by
  have w : wrap64 (a - (l.length : Int)) = a - (l.length : Int) := wrap_sub h0 (by omega) hf.1
  unfold laws_szMatchS.f
  simp only [w]
  by_cases c : a - (l.length : Int) < 0
  · exact ⟨-1, Ev.ifp c (Ev.now _), .inl rfl⟩
  have key : ∀ i, i ≤ l.length → ∀ b : Int, 0 ≤ b → b ≤ a → ∃ r, Ev (fun k => laws_szMatchS.l0 k l b (i : Int)) r ∧ (r = -1 ∨ (0 ≤ r ∧ r ≤ b ∧ ∀ x ∈ l.drop i, In_Match x)) := by
    refine from_index ?_ ?_
    · intro b hb0 hb1
      refine ⟨b, ?_, .inr ⟨hb0, Int.le_refl _, by rw [List.drop_length]; intro x hx; cases hx⟩⟩
      refine Ev.step (fun k => by rw [laws_szMatchS.l0]) ?_
      simp only [nat_nlt (Nat.le_refl _), if_false]
      exact Ev.now _
    · intro i hi ih b hb0 hb1
      obtain ⟨r1, e1, hr1⟩ := sz_Match l[i] (hf.2 _ (List.getElem_mem _)) b hb0 (by omega)
      rcases hr1 with hr1 | ⟨hr0, hrb, hin⟩
      · refine ⟨-1, ?_, .inl rfl⟩
        refine Ev.step (fun k => by rw [laws_szMatchS.l0]) ?_
        simp only [nat_lt hi, nat_pos, if_true, rdl_Match, getD_of hi]
        exact Ev.bind e1 (Ev.ifp (by omega) (Ev.now _))
      · obtain ⟨r2, e2, hr2⟩ := ih r1 hr0 (by omega)
        refine ⟨r2, ?_, ?_⟩
        · refine Ev.step (fun k => by rw [laws_szMatchS.l0]) ?_
          simp only [nat_lt hi, nat_pos, if_true, rdl_Match, getD_of hi, wrap_succ (show i < 9223372036854775807 by omega)]
          exact Ev.bind e1 (Ev.ifn (by omega) e2)
        · rcases hr2 with hr2 | ⟨h3, h4, h5⟩
          · exact .inl hr2
          · refine .inr ⟨h3, by omega, ?_⟩
            rw [drop_at hi]
            intro x hx
            rcases List.mem_cons.1 hx with rfl | hx
            · exact hin
            · exact h5 x hx
  obtain ⟨r, er, hr⟩ := key 0 (Nat.zero_le _) (a - (l.length : Int)) (by omega) (by omega)
  refine ⟨r, Ev.ifn c er, ?_⟩
  rcases hr with hr | ⟨h3, h4, h5⟩
  · exact .inl hr
  · exact .inr ⟨h3, by omega, by omega, by rwa [List.drop_zero] at h5⟩
theorem to_Match (x : S75) (h : In_Match x) : Ev (fun k => laws_toMatch.f x.f0 x.f1 x.f2) ((cv_Match x).f0, (cv_Match x).f1, (cv_Match x).f2) := Ev.const rfl
theorem tos_Match (l : List S75) (hl : l.length ≤ 1048576) (h : ∀ x ∈ l, In_Match x) : Ev (fun k => laws_toMatchS.f k l) (l.map cv_Match) := by
  have hm : (l.map cv_Match).length = l.length := List.length_map _
  have key : ∀ i, i ≤ l.length → Ev (fun k => laws_toMatchS.l0 k l (fillTo (l.map cv_Match) z48 i) (i : Int)) (l.map cv_Match) := by
    refine from_index ?_ ?_
    · refine Ev.step (fun k => by rw [laws_toMatchS.l0]) ?_
      simp only [nat_nlt (Nat.le_refl _), if_false]
      exact Ev.const (by rw [← hm, fillTo_all])
    · intro i hi ih
      refine Ev.step (fun k => by rw [laws_toMatchS.l0]) ?_
      have e : (fillTo (l.map cv_Match) z48 i).length = l.length := by rw [fillTo_length _ _ _ (by omega), hm]
      simp only [nat_lt hi, nat_pos, if_true, rdl_Match, getD_of hi, wrap_succ (show i < 9223372036854775807 by omega), e, Int.toNat_natCast]
      refine Ev.bind (to_Match l[i] (h _ (List.getElem_mem _))) ?_
      have s := fillTo_set (l.map cv_Match) z48 i (by omega)
      rw [List.getElem_map] at s
      show Ev (fun k => laws_toMatchS.l0 k l ((fillTo (l.map cv_Match) z48 i).set i (cv_Match l[i])) ((i + 1 : Nat) : Int)) _
      rw [s]
      exact ih
  unfold laws_toMatchS.f
  refine Ev.ifp (by omega) (Ev.ifp (by simp; omega) ?_)
  have := key 0 (Nat.zero_le _)
  rw [fillTo_zero, hm] at this
  simp only [Int.toNat_natCast]
  exact this
theorem eq_Match (x : S48) (h : Bd_Match x) : Ev (fun k => laws_eqMatch.f x.f0 x.f1 x.f2 x.f0 x.f1 x.f2) true := by
  refine Ev.const ?_
  simp [laws_eqMatch.f]
theorem eqs_Match (l : List S48) (hl : l.length < 9223372036854775807) (h : ∀ x ∈ l, Bd_Match x) : Ev (fun k => laws_eqMatchS.f k l l) true := by
  have key : ∀ i, i ≤ l.length → Ev (fun k => laws_eqMatchS.l0 k l l (i : Int)) true := by
    refine from_index ?_ ?_
    · refine Ev.step (fun k => by rw [laws_eqMatchS.l0]) ?_
      simp only [nat_nlt (Nat.le_refl _), if_false]
      exact Ev.now _
    · intro i hi ih
      refine Ev.step (fun k => by rw [laws_eqMatchS.l0]) ?_
      simp only [nat_lt hi, nat_pos, if_true, rdi_Match, getD_of hi, wrap_succ (show i < 9223372036854775807 by omega)]
      refine Ev.bind (eq_Match l[i] (h _ (List.getElem_mem _))) (Ev.ifp rfl ?_)
      exact ih
  unfold laws_eqMatchS.f
  refine Ev.ifp rfl ?_
  exact key 0 (Nat.zero_le _)
theorem sz_Label (x : S62) (hf : Fit62 x) (a : Int) (h0 : 0 ≤ a) (h1 : a ≤ 1048576) : ∃ r, Ev (fun k => laws_szLabel.f x.f0 x.f1 a) r ∧ (r = -1 ∨ (0 ≤ r ∧ r ≤ a ∧ In_Label x)) := by
  unfold laws_szLabel.f
  have hz0 : x.f0.size ≤ maxLen := hf.1
  have w0 : wrap64 (a - (x.f0.size : Int)) = a - (x.f0.size : Int) := wrap_sub (by omega) (by omega) hz0
  simp only [w0]
  by_cases c0 : a - (x.f0.size : Int) < 0
  · exact ⟨-1, Ev.ifp c0 (Ev.now _), .inl rfl⟩
  obtain ⟨b0, hb0⟩ : ∃ b, b = a - (x.f0.size : Int) := ⟨_, rfl⟩
  rw [← hb0] at c0
  simp only [← hb0]
  have hz1 : x.f1.size ≤ maxLen := hf.2
  have w1 : wrap64 (b0 - (x.f1.size : Int)) = b0 - (x.f1.size : Int) := wrap_sub (by omega) (by omega) hz1
  simp only [w1]
  by_cases c1 : b0 - (x.f1.size : Int) < 0
  · exact ⟨-1, Ev.ifn c0 (Ev.ifp c1 (Ev.now _)), .inl rfl⟩
  obtain ⟨b1, hb1⟩ : ∃ b, b = b0 - (x.f1.size : Int) := ⟨_, rfl⟩
  rw [← hb1] at c1
  simp only [← hb1]
  refine ⟨b1, Ev.ifn c0 (Ev.ifn c1 (Ev.now _)), .inr ⟨by omega, by omega, ⟨(show x.f0.size ≤ 1048576 by omega), (show x.f1.size ≤ 1048576 by omega)⟩⟩⟩
theorem szs_Label (l : List S62) (hf : FitList Fit62 l) (a : Int) (h0 : 0 ≤ a) (h1 : a ≤ 1048576) : ∃ r, Ev (fun k => laws_szLabelS.f k l a) r ∧ (r = -1 ∨ (0 ≤ r ∧ r ≤ a ∧ l.length ≤ 1048576 ∧ ∀ x ∈ l, In_Label x)) := by
  have w : wrap64 (a - (l.length : Int)) = a - (l.length : Int) := wrap_sub h0 (by omega) hf.1
  unfold laws_szLabelS.f
  simp only [w]
  by_cases c : a - (l.length : Int) < 0
  · exact ⟨-1, Ev.ifp c (Ev.now _), .inl rfl⟩
  have key : ∀ i, i ≤ l.length → ∀ b : Int, 0 ≤ b → b ≤ a → ∃ r, Ev (fun k => laws_szLabelS.l0 k l b (i : Int)) r ∧ (r = -1 ∨ (0 ≤ r ∧ r ≤ b ∧ ∀ x ∈ l.drop i, In_Label x)) := by
    refine from_index ?_ ?_
    · intro b hb0 hb1
      refine ⟨b, ?_, .inr ⟨hb0, Int.le_refl _, by rw [List.drop_length]; intro x hx; cases hx⟩⟩
      refine Ev.step (fun k => by rw [laws_szLabelS.l0]) ?_
      simp only [nat_nlt (Nat.le_refl _), if_false]
      exact Ev.now _
    · intro i hi ih b hb0 hb1
      obtain ⟨r1, e1, hr1⟩ := sz_Label l[i] (hf.2 _ (List.getElem_mem _)) b hb0 (by omega)
      rcases hr1 with hr1 | ⟨hr0, hrb, hin⟩
      · refine ⟨-1, ?_, .inl rfl⟩
        refine Ev.step (fun k => by rw [laws_szLabelS.l0]) ?_
        simp only [nat_lt hi, nat_pos, if_true, rdl_Label, getD_of hi]
        exact Ev.bind e1 (Ev.ifp (by omega) (Ev.now _))
      · obtain ⟨r2, e2, hr2⟩ := ih r1 hr0 (by omega)
        refine ⟨r2, ?_, ?_⟩
        · refine Ev.step (fun k => by rw [laws_szLabelS.l0]) ?_
          simp only [nat_lt hi, nat_pos, if_true, rdl_Label, getD_of hi, wrap_succ (show i < 9223372036854775807 by omega)]
          exact Ev.bind e1 (Ev.ifn (by omega) e2)
        · rcases hr2 with hr2 | ⟨h3, h4, h5⟩
          · exact .inl hr2
          · refine .inr ⟨h3, by omega, ?_⟩
            rw [drop_at hi]
            intro x hx
            rcases List.mem_cons.1 hx with rfl | hx
            · exact hin
            · exact h5 x hx
  obtain ⟨r, er, hr⟩ := key 0 (Nat.zero_le _) (a - (l.length : Int)) (by omega) (by omega)
  refine ⟨r, Ev.ifn c er, ?_⟩
  rcases hr with hr | ⟨h3, h4, h5⟩
  · exact .inl hr
  · exact .inr ⟨h3, by omega, by omega, by rwa [List.drop_zero] at h5⟩
theorem to_Label (x : S62) (h : In_Label x) : Ev (fun k => laws_toLabel.f x.f0 x.f1) ((cv_Label x).f0, (cv_Label x).f1) := Ev.const rfl
theorem tos_Label (l : List S62) (hl : l.length ≤ 1048576) (h : ∀ x ∈ l, In_Label x) : Ev (fun k => laws_toLabelS.f k l) (l.map cv_Label) := by
  have hm : (l.map cv_Label).length = l.length := List.length_map _
  have key : ∀ i, i ≤ l.length → Ev (fun k => laws_toLabelS.l0 k l (fillTo (l.map cv_Label) z52 i) (i : Int)) (l.map cv_Label) := by
    refine from_index ?_ ?_
    · refine Ev.step (fun k => by rw [laws_toLabelS.l0]) ?_
      simp only [nat_nlt (Nat.le_refl _), if_false]
      exact Ev.const (by rw [← hm, fillTo_all])
    · intro i hi ih
      refine Ev.step (fun k => by rw [laws_toLabelS.l0]) ?_
      have e : (fillTo (l.map cv_Label) z52 i).length = l.length := by rw [fillTo_length _ _ _ (by omega), hm]
      simp only [nat_lt hi, nat_pos, if_true, rdl_Label, getD_of hi, wrap_succ (show i < 9223372036854775807 by omega), e, Int.toNat_natCast]
      refine Ev.bind (to_Label l[i] (h _ (List.getElem_mem _))) ?_
      have s := fillTo_set (l.map cv_Label) z52 i (by omega)
      rw [List.getElem_map] at s
      show Ev (fun k => laws_toLabelS.l0 k l ((fillTo (l.map cv_Label) z52 i).set i (cv_Label l[i])) ((i + 1 : Nat) : Int)) _
      rw [s]
      exact ih
  unfold laws_toLabelS.f
  refine Ev.ifp (by omega) (Ev.ifp (by simp; omega) ?_)
  have := key 0 (Nat.zero_le _)
  rw [fillTo_zero, hm] at this
  simp only [Int.toNat_natCast]
  exact this
theorem eq_Label (x : S52) (h : Bd_Label x) : Ev (fun k => laws_eqLabel.f x.f0 x.f1 x.f0 x.f1) true := by
  refine Ev.const ?_
  simp [laws_eqLabel.f]
theorem eqs_Label (l : List S52) (hl : l.length < 9223372036854775807) (h : ∀ x ∈ l, Bd_Label x) : Ev (fun k => laws_eqLabelS.f k l l) true := by
  have key : ∀ i, i ≤ l.length → Ev (fun k => laws_eqLabelS.l0 k l l (i : Int)) true := by
    refine from_index ?_ ?_
    · refine Ev.step (fun k => by rw [laws_eqLabelS.l0]) ?_
      simp only [nat_nlt (Nat.le_refl _), if_false]
      exact Ev.now _
    · intro i hi ih
      refine Ev.step (fun k => by rw [laws_eqLabelS.l0]) ?_
      simp only [nat_lt hi, nat_pos, if_true, rdi_Label, getD_of hi, wrap_succ (show i < 9223372036854775807 by omega)]
      refine Ev.bind (eq_Label l[i] (h _ (List.getElem_mem _))) (Ev.ifp rfl ?_)
      exact ih
  unfold laws_eqLabelS.f
  refine Ev.ifp rfl ?_
  exact key 0 (Nat.zero_le _)

theorem FnExactMatchesLet : laws_FnExactMatchesLet.Pure := by
  intro l0 l1 hf0 hf1
  apply Ev.rounds
  unfold laws_FnExactMatchesLet.f
  obtain ⟨r, er, hr⟩ := szs_Match l0 hf0 1048576 (by omega) (by omega)
  refine Ev.bind er ?_
  rcases hr with hr | ⟨g0, g1, hl0, hin0⟩
  · exact Ev.ifp (by omega) (Ev.now _)
  refine Ev.ifn (by omega) ?_
  obtain ⟨q, eq, hq⟩ := szs_Label l1 hf1 r g0 g1
  refine Ev.bind eq ?_
  rcases hq with hq | ⟨k0, k1, hl1, hin1⟩
  · exact Ev.ifp (by omega) (Ev.now _)
  refine Ev.ifn (by omega) ?_
  have hm0 : (l0.map cv_Match).length = l0.length := List.length_map _
  have hm1 : (l1.map cv_Label).length = l1.length := List.length_map _
  have hb0 := bdM_of (l0.map cv_Match) (by omega) (cvbds_Match l0 hin0)
  have hb1 := bdL_of (l1.map cv_Label) (by omega) (cvbds_Label l1 hin1)
  refine Ev.bind (tos_Match l0 hl0 hin0) (Ev.bind (tos_Label l1 hl1 hin1) ?_)
  refine Ev.bind (spec_MatchesLet_ev _ _ hb0 hb1) ?_
  refine Ev.bind (tos_Match l0 hl0 hin0) (Ev.bind (tos_Label l1 hl1 hin1) ?_)
  refine Ev.bind (Ev.const (impl_MatchesLet_eq _ _ hb0 hb1)) ?_
  refine Ev.ifn (by simp) ?_
  refine Ev.bind (tos_Match l0 hl0 hin0) (Ev.bind (eqs_Match _ (by omega) (cvbds_Match l0 hin0)) ?_)
  refine Ev.ifp rfl (Ev.bind (tos_Label l1 hl1 hin1) (Ev.bind (eqs_Label _ (by omega) (cvbds_Label l1 hin1)) ?_))
  exact Ev.ifp rfl (Ev.now _)

end Go.Proofs.Ytipbllegjcedgaa.Pure
