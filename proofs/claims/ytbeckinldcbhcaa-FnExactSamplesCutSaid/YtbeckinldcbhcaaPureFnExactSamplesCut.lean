/- The program's SamplesCut returns the reference's samples, for every samples and every two times; what it returns is its own (marks laid into the argument do not reach it); no condition. -/
import Derived.Test.YtbeckinldcbhcaaFitFnExactSamplesCut
import Derived.Test.YtbeckinldcbhcaaWOwn
set_option linter.unusedVariables false
set_option linter.unusedSimpArgs false
namespace Go.Proofs.Ytbeckinldcbhcaa.Pure
open Go.RowKit Go.Proofs.Ytbeckinldcbhcaa.QFnExactSamplesCut Go.Proofs.YtbeckinldcbhcaaW.PrintWords Go.Proofs.YtbeckinldcbhcaaW.PrintLast Go.Proofs.YtbeckinldcbhcaaW.Own

theorem nat_lt {i n : Nat} (h : i < n) : ((i : Int) < (n : Int)) = True := by simp [h]
theorem nat_nlt {i n : Nat} (h : n ≤ i) : ((i : Int) < (n : Int)) = False := by simp [h]
theorem nat_pos (i : Nat) : (0 ≤ (i : Int)) = True := by simp
theorem wrap_succ {i : Nat} (h : i < 9223372036854775807) : wrap64 ((i : Int) + 1) = ((i + 1 : Nat) : Int) := by unfold wrap64; omega
theorem wrap_pred {i : Nat} (h : i < 9223372036854775807) : wrap64 ((i : Int) - 1) = (i : Int) - 1 := by unfold wrap64; omega
theorem wrap_sub {a : Int} {n : Nat} (h0 : 0 ≤ a) (h1 : a ≤ 9223372036854775807) (hn : n ≤ maxLen) : wrap64 (a - (n : Int)) = a - (n : Int) := by unfold wrap64; unfold maxLen at hn; omega
theorem rd_nat (l : List Int) (i : Nat) : rd l (i : Int) = l.getD i 0 := rfl
theorem getD_of {α : Type} {l : List α} {i : Nat} (h : i < l.length) (d : α) : l.getD i d = l[i] := by simp [List.getD, List.getElem?_eq_getElem h]
theorem drop_at {α : Type} {l : List α} {i : Nat} (h : i < l.length) : l.drop i = l[i] :: l.drop (i + 1) := List.drop_eq_getElem_cons h
theorem bt_nat (s : ByteArray) (i : Nat) (h : i < s.size) : bt s (i : Int) = ((s[i]'h).toNat : Int) := by
  unfold bt
  have : (i : Int).toNat = i := by omega
  simp [h]
/-- From an index on: at the end, and one round. -/
theorem from_index {P : Nat → Prop} {n : Nat} (h0 : P n) (h1 : ∀ i, i < n → P (i + 1) → P i) : ∀ i, i ≤ n → P i := by
  have key : ∀ d i, i + d = n → P i := by
    intro d
    induction d with
    | zero => intro i h; obtain rfl : i = n := by omega
              exact h0
    | succ d ih => intro i h; exact h1 i (by omega) (ih (i + 1) (by omega))
  intro i hi
  exact key (n - i) i (by omega)
/-- A row that is filled from the front. -/
def fillTo {α : Type} (xs : List α) (z : α) (i : Nat) : List α := xs.take i ++ List.replicate (xs.length - i) z
theorem fillTo_length {α : Type} (xs : List α) (z : α) (i : Nat) (h : i ≤ xs.length) : (fillTo xs z i).length = xs.length := by
  unfold fillTo; rw [List.length_append, List.length_take, List.length_replicate]; omega
theorem fillTo_zero {α : Type} (xs : List α) (z : α) : fillTo xs z 0 = List.replicate xs.length z := by simp [fillTo]
theorem fillTo_all {α : Type} (xs : List α) (z : α) : fillTo xs z xs.length = xs := by simp [fillTo]
theorem fillTo_set {α : Type} (xs : List α) (z : α) (i : Nat) (h : i < xs.length) : (fillTo xs z i).set i xs[i] = fillTo xs z (i + 1) := by
  unfold fillTo
  have hl : (xs.take i).length = i := by rw [List.length_take]; omega
  have e : xs.length - i = (xs.length - (i + 1)) + 1 := by omega
  rw [e, List.replicate_succ, List.set_append_right _ _ (by omega), hl, Nat.sub_self, List.set_cons_zero, List.take_succ_eq_append_getElem h, List.append_assoc]
  rfl
theorem spec_l1In_eq (a b c : Int) : spec_l1In.f a b c = some (decide (b ≤ a ∧ a ≤ c)) := by
  unfold spec_l1In.f
  by_cases h : a ≥ b
  · rw [if_pos h]
    have h' : b ≤ a := h
    simp [h']
  · rw [if_neg h]
    have h' : ¬ b ≤ a := h
    simp [h']
def prevOf (l : List Smp) (i : Nat) : Option Smp := if i = 0 then none else some (l.getD (i - 1) z56)
theorem rdS_nat (l : List Smp) (i : Nat) : rd_T56 l (i : Int) = l.getD i z56 := rfl
theorem rdS_pred (l : List Smp) (i : Nat) (h : 0 < i) : rd_T56 l ((i : Int) - 1) = l.getD (i - 1) z56 := by
  unfold rd_T56
  congr 1
  omega
theorem sokP_cons (p : Option Smp) (x : Smp) (l : List Smp) : sokP p (x :: l) = (inR x && (match p with | none => true | some q => decide (q.f0 < x.f0)) && sokP (some x) l) := by cases p <;> rfl
theorem prevOf_succ (l : List Smp) (i : Nat) (h : i < l.length) : prevOf l (i + 1) = some l[i] := by
  unfold prevOf
  rw [if_neg (by omega), Nat.add_sub_cancel, getD_of h]
theorem sokP_step (l : List Smp) (i : Nat) (h : i < l.length) : sokP (prevOf l i) (l.drop i) = (inR l[i] && (if 0 < i then decide ((l.getD (i - 1) z56).f0 < (l[i]).f0) else true) && sokP (prevOf l (i + 1)) (l.drop (i + 1))) := by
  rw [drop_at h, sokP_cons, prevOf_succ l i h]
  by_cases hi : i = 0
  · subst hi; rfl
  · unfold prevOf
    rw [if_neg hi, if_pos (by omega)]
theorem spec_l2Ok_ev (l : List Smp) (hl : l.length < 9223372036854775807) : Ev (fun _ => spec_l2Ok.f l) (sok l) := by
  refine Ev.const ?_
  unfold spec_l2Ok.f
  rw [if_pos hl]
theorem impl_isTime_eq (a : Int) : impl_isTime.f a = some (decide (0 ≤ a ∧ a ≤ 9999)) := by
  unfold impl_isTime.f
  by_cases h : a ≥ 0
  · rw [if_pos h]; have h' : 0 ≤ a := h; simp [h']
  · rw [if_neg h]; have h' : ¬ 0 ≤ a := h; simp [h']
theorem impl_isValue_eq (a : Int) : impl_isValue.f a = some (decide (0 ≤ a ∧ a ≤ 2147483647)) := by
  unfold impl_isValue.f
  by_cases h : a ≥ 0
  · rw [if_pos h]; have h' : 0 ≤ a := h; simp [h']
  · rw [if_neg h]; have h' : ¬ 0 ≤ a := h; simp [h']
theorem impl_SamplesOk_ev (l : List Smp) (hl : l.length < 9223372036854775807) : Ev (fun k => impl_SamplesOk.f k l) (sok l) := by
  have key : ∀ i, i ≤ l.length → Ev (fun k => impl_SamplesOk.l0 k l l (l.length : Int) (i : Int)) (sokP (prevOf l i) (l.drop i)) := by
    refine from_index ?_ ?_
    · refine Ev.step (fun k => by rw [impl_SamplesOk.l0]) ?_
      simp only [nat_nlt (Nat.le_refl _), if_false]
      exact Ev.const (by simp [sokP, chainP])
    · intro i hi ih
      refine Ev.step (fun k => by rw [impl_SamplesOk.l0]) ?_
      rw [sokP_step l i hi]
      simp only [nat_lt hi, nat_pos, if_true, impl_isTime_eq, impl_isValue_eq, Option.bind_some, rdS_nat, getD_of hi, wrap_succ (show i < 9223372036854775807 by omega), wrap_pred (show i < 9223372036854775807 by omega)]
      by_cases a : 0 ≤ (l[i]).f0 ∧ (l[i]).f0 ≤ 9999
      · simp only [a, and_self, decide_true, if_true]
        by_cases b : 0 ≤ (l[i]).f1 ∧ (l[i]).f1 ≤ 2147483647
        · have e : inR l[i] = true := by simp [inR, a, b]
          simp only [b, and_self, decide_true, if_true, e, Bool.true_and]
          by_cases c : 0 < i
          · have c1 : ((i : Int) > 0) = True := by simp [c]
            have c2 : (0 ≤ (i : Int) - 1) = True := by simp; omega
            have c3 : ((i : Int) - 1 < (l.length : Int)) = True := by simp; omega
            simp only [c1, c2, c3, if_true, rdS_pred l i c, if_pos c]
            by_cases d : (l.getD (i - 1) z56).f0 < (l[i]).f0
            · simp only [ge_iff_le, Int.not_le.mpr d, if_false, d, decide_true, Bool.true_and]
              exact ih
            · simp only [ge_iff_le, Int.not_lt.mp d, if_true, d, decide_false, Bool.false_and]
              exact Ev.now _
          · have c1 : ((i : Int) > 0) = False := by simp; omega
            simp only [c1, if_false, if_neg c, Bool.true_and]
            exact ih
        · have e : inR l[i] = false := by simp only [inR, decide_eq_false_iff_not]; exact fun h => b ⟨h.2.2.1, h.2.2.2⟩
          simp only [b, decide_false, e, Bool.false_and, Bool.false_eq_true, if_false]
          exact Ev.now _
      · have e : inR l[i] = false := by simp only [inR, decide_eq_false_iff_not]; exact fun h => a ⟨h.1, h.2.1⟩
        simp only [a, decide_false, e, Bool.false_and, Bool.false_eq_true, if_false]
        exact Ev.now _
  unfold impl_SamplesOk.f sok
  exact key 0 (Nat.zero_le _)
theorem cutP_iff (a b : Int) (x : Smp) : cutP a b x = false ↔ x.f0 ≥ a ∧ x.f0 < b := by
  unfold cutP
  simp
theorem spec_l2Cut_ev (l : List Smp) (a b : Int) (hl : l.length ≤ 1048576) : Ev (fun k => spec_l2Cut.f k l a b) (cutL l a b) := by
  have key : ∀ i, i ≤ l.length → Ev (fun k => spec_l2Cut.l0 k l a b ((l.take i).filter fun x => !cutP a b x) (i : Int)) (cutL l a b) := by
    refine from_index ?_ ?_
    · refine Ev.step (fun k => by rw [spec_l2Cut.l0]) ?_
      rw [List.take_length]
      exact Ev.ifn (by omega) (Ev.now _)
    · intro i hi ih
      refine Ev.step (fun k => by rw [spec_l2Cut.l0]) ?_
      rw [rdS_nat, wrap_succ (show i < 9223372036854775807 by omega)]
      refine Ev.ifp (by omega) (Ev.ifp (by omega) ?_)
      have hle : ((l.take i).filter fun x => !cutP a b x).length < 8796093022208 := by
        have h1 := List.length_filter_le (fun x => !cutP a b x) (l.take i)
        have h2 := List.length_take_le i l
        omega
      cases hP : cutP a b (l.getD i z56)
      · obtain ⟨h1, h2⟩ := (cutP_iff a b _).1 hP
        rw [filter_take_no (cutP a b) l z56 i hi hP] at ih
        exact Ev.ifp h1 (Ev.ifp h2 (Ev.ifp hle ih))
      · have h3 : ¬ ((l.getD i z56).f0 ≥ a ∧ (l.getD i z56).f0 < b) := fun h => by
          rw [(cutP_iff a b _).2 h] at hP; cases hP
        rw [filter_take_yes (cutP a b) l z56 i hi hP] at ih
        by_cases h1 : (l.getD i z56).f0 ≥ a
        · exact Ev.ifp h1 (Ev.ifn (fun h2 => h3 ⟨h1, h2⟩) ih)
        · exact Ev.ifn h1 ih
  unfold spec_l2Cut.f
  exact key 0 (Nat.zero_le _)
def cutV (l : List Smp) (a b : Int) : List Smp := if sok l = true then cutL l a b else []
theorem cutV_len (l : List Smp) (a b : Int) : (cutV l a b).length ≤ l.length := by
  unfold cutV
  split
  · exact List.length_filter_le _ _
  · exact Nat.zero_le _
theorem spec_SamplesCut_ev (l : List Smp) (a b : Int) (hl : l.length ≤ 1048576) : Ev (fun k => spec_SamplesCut.f k l a b) (cutV l a b) := by
  unfold spec_SamplesCut.f cutV
  refine Ev.bind (spec_l2Ok_ev l (by omega)) ?_
  cases h : sok l
  · exact Ev.ifn (by decide) (Ev.now _)
  · exact Ev.ifp rfl (Ev.bind (spec_l2Cut_ev l a b hl) (Ev.now _))
theorem impl_SamplesCut_ev (l : List Smp) (a b : Int) (hl : l.length ≤ 1048576) : Ev (fun k => impl_SamplesCut.f k l a b) (cutV l a b) := by
  unfold impl_SamplesCut.f cutV
  refine Ev.bind (impl_SamplesOk_ev l (by omega)) ?_
  cases h : sok l
  · exact Ev.ifn (by decide) (Ev.now _)
  · have hc : impl_cut.f l a b = some (cutL l a b) := by unfold impl_cut.f; rw [if_pos hl]
    exact Ev.ifp rfl (Ev.bind (Ev.const hc) (Ev.now _))
abbrev LSmp := S82
def toSmp (x : LSmp) : Smp := ⟨x.f0, x.f1⟩
theorem rdL_nat (l : List LSmp) (i : Nat) : rd_T82 l (i : Int) = l.getD i z82 := rfl
theorem laws_toSampleS_ev (l : List LSmp) (hl : l.length ≤ 1048576) : Ev (fun k => laws_toSampleS.f k l) (l.map toSmp) := by
  have hm : (l.map toSmp).length = l.length := List.length_map _
  have key : ∀ i, i ≤ l.length → Ev (fun k => laws_toSampleS.l0 k l (fillTo (l.map toSmp) z56 i) (i : Int)) (l.map toSmp) := by
    refine from_index ?_ ?_
    · refine Ev.step (fun k => by rw [laws_toSampleS.l0]) ?_
      simp only [nat_nlt (Nat.le_refl _), if_false]
      exact Ev.const (by rw [← hm, fillTo_all])
    · intro i hi ih
      refine Ev.step (fun k => by rw [laws_toSampleS.l0]) ?_
      have e : (fillTo (l.map toSmp) z56 i).length = l.length := by rw [fillTo_length _ _ _ (by omega), hm]
      simp only [nat_lt hi, nat_pos, if_true, laws_toSample.f, Option.bind_some, rdL_nat, getD_of hi, wrap_succ (show i < 9223372036854775807 by omega), e, Int.toNat_natCast]
      have s := fillTo_set (l.map toSmp) z56 i (by omega)
      rw [List.getElem_map] at s
      show Ev (fun k => laws_toSampleS.l0 k l ((fillTo (l.map toSmp) z56 i).set i (toSmp l[i])) ((i + 1 : Nat) : Int)) _
      rw [s]
      exact ih
  unfold laws_toSampleS.f
  have c : (Int.toNat (l.length : Int) ≤ 17592186044416) = True := by simp; omega
  simp only [nat_pos, if_true, c]
  have := key 0 (Nat.zero_le _)
  rw [fillTo_zero, hm] at this
  simp only [Int.toNat_natCast]
  exact this
theorem laws_eqSampleS_refl (l : List Smp) (hl : l.length < 9223372036854775807) : Ev (fun k => laws_eqSampleS.f k l l) true := by
  have key : ∀ i, i ≤ l.length → Ev (fun k => laws_eqSampleS.l0 k l l (i : Int)) true := by
    refine from_index ?_ ?_
    · refine Ev.step (fun k => by rw [laws_eqSampleS.l0]) ?_
      simp only [nat_nlt (Nat.le_refl _), if_false]
      exact Ev.now _
    · intro i hi ih
      refine Ev.step (fun k => by rw [laws_eqSampleS.l0]) ?_
      simp only [nat_lt hi, nat_pos, if_true, laws_eqSample.f, Option.bind_some, wrap_succ (show i < 9223372036854775807 by omega)]
      exact ih
  unfold laws_eqSampleS.f
  simp only [if_true]
  exact key 0 (Nat.zero_le _)
theorem laws_szSampleS_eq (l : List LSmp) (hl : l.length ≤ maxLen) (a : Int) (h0 : 0 ≤ a) (h1 : a ≤ 1048576) : laws_szSampleS.f l a = some (if a - (l.length : Int) < 0 then -1 else a - (l.length : Int)) := by
  unfold laws_szSampleS.f
  rw [wrap_sub h0 (by omega) hl]
  split <;> rfl
def cntS (a : Int) (n : Nat) : List Smp := (List.range n).map (fun j : Nat => (⟨a + 2 * (j : Int), a + 2 * (j : Int) + 1⟩ : Smp))
theorem cntS_length (a : Int) (n : Nat) : (cntS a n).length = n := by simp [cntS]
theorem cntS_succ (a : Int) (n : Nat) : cntS a (n + 1) = cntS a n ++ [(⟨a + 2 * (n : Int), a + 2 * (n : Int) + 1⟩ : Smp)] := by simp [cntS, List.range_succ]
theorem cntS_get (a : Int) (n i : Nat) (h : i < n) : (cntS a n).getD i z56 = ⟨a + 2 * (i : Int), a + 2 * (i : Int) + 1⟩ := by simp [cntS, List.getD, h]
theorem set_mid (u v : List Smp) (x y : Smp) (n : Nat) (h : u.length = n) : (u ++ x :: v).set n y = u ++ y :: v := by
  subst h
  simp
theorem get_mid (u v : List Smp) (x : Smp) (n : Nat) (h : u.length = n) (z : Smp) : (u ++ x :: v).getD n z = x := by
  subst h
  simp [List.getD]
theorem markSample_ev (l : List Smp) (a : Int) (hl : l.length ≤ 10000000) (ha : 0 ≤ a ∧ a ≤ 1000000000) : Ev (fun k => laws_markSampleS.f k l a) (a + 2 * (l.length : Int), cntS a l.length) := by
  have key : ∀ i, i ≤ l.length → Ev (fun k => laws_markSampleS.l0 k (cntS a i ++ l.drop i) (a + 2 * (i : Int)) (i : Int)) (a + 2 * (l.length : Int), cntS a l.length) := by
    refine from_index ?_ ?_
    · refine Ev.step (fun k => by rw [laws_markSampleS.l0]) ?_
      rw [List.drop_length, List.append_nil]
      refine Ev.ifn (by rw [cntS_length]; omega) (Ev.now _)
    · intro i hi ih
      refine Ev.step (fun k => by rw [laws_markSampleS.l0]) ?_
      have e : (cntS a i ++ l.drop i).length = l.length := by rw [List.length_append, cntS_length, List.length_drop]; omega
      refine Ev.ifp (by rw [e]; omega) (Ev.ifp (by omega) (Ev.bind (Ev.now _) ?_))
      have hc := cntS_length a i
      rw [drop_at hi]
      unfold rd_T56
      simp only [Int.toNat_natCast, set_mid _ _ _ _ i hc, get_mid _ _ _ i hc]
      rw [wrap_succ (show i < 9223372036854775807 by omega), wrap_in (show -9223372036854775808 ≤ a + 2 * (i : Int) + 1 by omega) (by omega), wrap_in (show -9223372036854775808 ≤ a + 2 * (i : Int) + 1 + 1 by omega) (by omega)]
      have e2 : cntS a i ++ (⟨a + 2 * (i : Int), a + 2 * (i : Int) + 1⟩ : Smp) :: l.drop (i + 1) = cntS a (i + 1) ++ l.drop (i + 1) := by
        rw [cntS_succ, List.append_assoc]
        rfl
      rw [e2]
      have e3 : a + 2 * (i : Int) + 1 + 1 = a + 2 * ((i + 1 : Nat) : Int) := by omega
      rw [e3]
      exact ih
  unfold laws_markSampleS.f
  have := key 0 (Nat.zero_le _)
  simp only [cntS, List.range_zero, List.map_nil, List.nil_append, List.drop_zero] at this
  have e : a + 2 * ((0 : Nat) : Int) = a := by simp
  rw [e] at this
  exact this
theorem heldSample_ev (n : Nat) (a : Int) (hn : n ≤ 10000000) (ha : 0 ≤ a ∧ a ≤ 1000000000) : Ev (fun k => laws_heldSampleS.f k (cntS a n) a) (a + 2 * (n : Int)) := by
  have key : ∀ i, i ≤ n → Ev (fun k => laws_heldSampleS.l0 k (cntS a n) (a + 2 * (i : Int)) (i : Int)) (a + 2 * (n : Int)) := by
    refine from_index ?_ ?_
    · refine Ev.step (fun k => by rw [laws_heldSampleS.l0]) ?_
      exact Ev.ifn (by rw [cntS_length]; omega) (Ev.now _)
    · intro i hi ih
      refine Ev.step (fun k => by rw [laws_heldSampleS.l0]) ?_
      have w1 := wrap_in (show -9223372036854775808 ≤ a + 2 * (i : Int) + 1 by omega) (by omega)
      have w2 := wrap_in (show -9223372036854775808 ≤ a + 2 * (i : Int) + 1 + 1 by omega) (by omega)
      refine Ev.ifp (by rw [cntS_length]; omega) (Ev.ifp (by omega) ?_)
      rw [rdS_nat, cntS_get a n i hi, w1, w2]
      refine Ev.ifp rfl (Ev.ifp rfl ?_)
      rw [wrap_succ (show i < 9223372036854775807 by omega)]
      have e3 : a + 2 * (i : Int) + 1 + 1 = a + 2 * ((i + 1 : Nat) : Int) := by omega
      rw [e3]
      exact ih
  unfold laws_heldSampleS.f
  have := key 0 (Nat.zero_le _)
  have e : a + 2 * ((0 : Nat) : Int) = a := by simp
  rw [e] at this
  exact this

theorem FnExactSamplesCut : laws_FnExactSamplesCut.Pure := by
  intro l a b hfit _ _
  apply Ev.rounds
  unfold laws_FnExactSamplesCut.f
  refine Ev.bind (Ev.const (laws_szSampleS_eq l hfit.1 1048576 (by omega) (by omega))) ?_
  by_cases c : (1048576 : Int) - (l.length : Int) < 0
  · rw [if_pos c]
    exact Ev.ifp (by decide) (Ev.now _)
  rw [if_neg c]
  refine Ev.ifn c ?_
  have hl : l.length ≤ 1048576 := by omega
  have hm : (l.map toSmp).length = l.length := List.length_map _
  have hv := cutV_len (l.map toSmp) a b
  have T := laws_toSampleS_ev l hl
  have SP := spec_SamplesCut_ev (l.map toSmp) a b (by omega)
  have IM := impl_SamplesCut_ev (l.map toSmp) a b (by omega)
  have RV := laws_eqSampleS_refl (cutV (l.map toSmp) a b) (by omega)
  have hh := heldSample_ev (cutV (l.map toSmp) a b).length 1 (by omega) (by omega)
  refine Ev.bind T (Ev.bind SP (Ev.bind T (Ev.bind IM (Ev.bind RV (Ev.ifp rfl (Ev.bind T (Ev.bind (laws_eqSampleS_refl _ (by omega)) (Ev.ifp rfl ?_))))))))
  refine Ev.bind (markSample_ev (l.map toSmp) 1 (by omega) (by omega)) (Ev.ifn (by simp only; omega) (Ev.bind RV ?_))
  refine Ev.step (fun k => by rw [laws_FnExactSamplesCut.j0]) ?_
  refine Ev.ifn (by decide) (Ev.bind (markSample_ev (cutV (l.map toSmp) a b) 1 (by omega) (by omega)) (Ev.bind hh ?_))
  refine Ev.ifn (by omega) (Ev.ifp rfl (Ev.bind T (Ev.bind IM (Ev.bind RV (Ev.ifp rfl (Ev.bind hh ?_))))))
  exact Ev.ifn (by omega) (Ev.ifp rfl (Ev.now _))

end Go.Proofs.Ytbeckinldcbhcaa.Pure
