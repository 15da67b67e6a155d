/- The program's ListOk answers as the reference's, for every list of numbers; no condition. -/
import Derived.Test.YtidapbdlomjgcaaQFnExactListOkx1
import Derived.Test.YtidapbdlomjgcaaWOwn
set_option linter.unusedVariables false
set_option linter.unusedSimpArgs false
namespace Go.Proofs.Ytidapbdlomjgcaa.Pure
open Go.RowKit Go.Proofs.Ytidapbdlomjgcaa.QFnExactListOk Go.Proofs.YtidapbdlomjgcaaW.PrintWords Go.Proofs.YtidapbdlomjgcaaW.PrintLast Go.Proofs.YtidapbdlomjgcaaW.Own

theorem nat_lt {i n : Nat} (h : i < n) : ((i : Int) < (n : Int)) = True := by simp [h]
theorem nat_nlt {i n : Nat} (h : n ≤ i) : ((i : Int) < (n : Int)) = False := by simp [h]
theorem nat_pos (i : Nat) : (0 ≤ (i : Int)) = True := by simp
theorem wrap_succ {i : Nat} (h : i < 9223372036854775807) : wrap64 ((i : Int) + 1) = ((i + 1 : Nat) : Int) := by unfold wrap64; omega
theorem wrap_pred {i : Nat} (h : i < 9223372036854775807) : wrap64 ((i : Int) - 1) = (i : Int) - 1 := by unfold wrap64; omega
theorem wrap_sub {a : Int} {n : Nat} (h0 : 0 ≤ a) (h1 : a ≤ 9223372036854775807) (hn : n ≤ maxLen) : wrap64 (a - (n : Int)) = a - (n : Int) := by unfold wrap64; unfold maxLen at hn; omega
theorem rd_nat (l : List Int) (i : Nat) : rd l (i : Int) = l.getD i 0 := rfl
theorem getD_of {α : Type} {l : List α} {i : Nat} (h : i < l.length) (d : α) : l.getD i d = l[i] := by simp [List.getD, List.getElem?_eq_getElem h]
theorem drop_at {α : Type} {l : List α} {i : Nat} (h : i < l.length) : l.drop i = l[i] :: l.drop (i + 1) := List.drop_eq_getElem_cons h
theorem bt_nat (s : ByteArray) (i : Nat) (h : i < s.size) : bt s (i : Int) = ((s[i]'h).toNat : Int) := by
  unfold bt
  have : (i : Int).toNat = i := by omega
  simp [h]
/-- From an index on: at the end, and one round. -/
theorem from_index {P : Nat → Prop} {n : Nat} (h0 : P n) (h1 : ∀ i, i < n → P (i + 1) → P i) : ∀ i, i ≤ n → P i := by
  have key : ∀ d i, i + d = n → P i := by
    intro d
    induction d with
    | zero => intro i h; obtain rfl : i = n := by omega
              exact h0
    | succ d ih => intro i h; exact h1 i (by omega) (ih (i + 1) (by omega))
  intro i hi
  exact key (n - i) i (by omega)
/-- A row that is filled from the front. -/
def fillTo {α : Type} (xs : List α) (z : α) (i : Nat) : List α := xs.take i ++ List.replicate (xs.length - i) z
theorem fillTo_length {α : Type} (xs : List α) (z : α) (i : Nat) (h : i ≤ xs.length) : (fillTo xs z i).length = xs.length := by
  unfold fillTo; rw [List.length_append, List.length_take, List.length_replicate]; omega
theorem fillTo_zero {α : Type} (xs : List α) (z : α) : fillTo xs z 0 = List.replicate xs.length z := by simp [fillTo]
theorem fillTo_all {α : Type} (xs : List α) (z : α) : fillTo xs z xs.length = xs := by simp [fillTo]
theorem fillTo_set {α : Type} (xs : List α) (z : α) (i : Nat) (h : i < xs.length) : (fillTo xs z i).set i xs[i] = fillTo xs z (i + 1) := by
  unfold fillTo
  have hl : (xs.take i).length = i := by rw [List.length_take]; omega
  have e : xs.length - i = (xs.length - (i + 1)) + 1 := by omega
  rw [e, List.replicate_succ, List.set_append_right _ _ (by omega), hl, Nat.sub_self, List.set_cons_zero, List.take_succ_eq_append_getElem h, List.append_assoc]
  rfl
def lokP : Option Int → List Int → Bool
  | _, [] => true
  | p, x :: l => decide (0 ≤ x) && (match p with | none => true | some q => decide (q < x)) && lokP (some x) l
def lok (l : List Int) : Bool := lokP none l && decide (l.length ≤ 40)
def prevI (l : List Int) (i : Nat) : Option Int := if i = 0 then none else some (l.getD (i - 1) 0)
theorem rd_pred (l : List Int) (i : Nat) (h : 0 < i) : rd l ((i : Int) - 1) = l.getD (i - 1) 0 := by
  unfold rd
  congr 1
  omega
theorem lokP_cons (p : Option Int) (x : Int) (l : List Int) : lokP p (x :: l) = (decide (0 ≤ x) && (match p with | none => true | some q => decide (q < x)) && lokP (some x) l) := rfl
theorem prevI_succ (l : List Int) (i : Nat) (h : i < l.length) : prevI l (i + 1) = some l[i] := by
  unfold prevI
  rw [if_neg (by omega), Nat.add_sub_cancel, getD_of h]
theorem lokP_step (l : List Int) (i : Nat) (h : i < l.length) : lokP (prevI l i) (l.drop i) = (decide (0 ≤ l[i]) && (if 0 < i then decide ((l.getD (i - 1) 0) < l[i]) else true) && lokP (prevI l (i + 1)) (l.drop (i + 1))) := by
  rw [drop_at h, lokP_cons, prevI_succ l i h]
  by_cases hi : i = 0
  · subst hi; rfl
  · unfold prevI
    rw [if_neg hi, if_pos (by omega)]
theorem spec_ListOk_ev (l : List Int) (hl : l.length < 9223372036854775807) : Ev (fun k => spec_ListOk.f k l) (lok l) := by
  have key : ∀ i, i ≤ l.length → Ev (fun k => spec_ListOk.l0 k l (i : Int)) (lokP (prevI l i) (l.drop i) && decide (l.length ≤ 40)) := by
    refine from_index ?_ ?_
    · refine Ev.step (fun k => by rw [spec_ListOk.l0]) ?_
      simp only [nat_nlt (Nat.le_refl _), if_false]
      refine Ev.const ?_
      rw [List.drop_length]
      simp only [lokP, Bool.true_and]
      congr 1
      exact decide_eq_decide.mpr (by omega)
    · intro i hi ih
      refine Ev.step (fun k => by rw [spec_ListOk.l0]) ?_
      rw [lokP_step l i hi]
      simp only [nat_lt hi, nat_pos, if_true, rd_nat, getD_of hi, wrap_succ (show i < 9223372036854775807 by omega), wrap_pred (show i < 9223372036854775807 by omega)]
      by_cases a : l[i] < 0
      · have a' : ¬ 0 ≤ l[i] := by omega
        simp only [a, if_true, a', decide_false, Bool.false_and]
        exact Ev.now _
      · have a' : 0 ≤ l[i] := by omega
        simp only [a, if_false, a', decide_true, Bool.true_and]
        by_cases c : 0 < i
        · have c1 : ((i : Int) > 0) = True := by simp [c]
          have c2 : (0 ≤ (i : Int) - 1) = True := by simp; omega
          have c3 : ((i : Int) - 1 < (l.length : Int)) = True := by simp; omega
          simp only [c1, c2, c3, if_true, rd_pred l i c, if_pos c]
          by_cases d : (l.getD (i - 1) 0) < l[i]
          · simp only [ge_iff_le, Int.not_le.mpr d, if_false, d, decide_true, Bool.true_and]
            exact ih
          · simp only [ge_iff_le, Int.not_lt.mp d, if_true, d, decide_false, Bool.false_and]
            exact Ev.now _
        · have c1 : ((i : Int) > 0) = False := by simp; omega
          simp only [c1, if_false, if_neg c, Bool.true_and]
          exact ih
  unfold spec_ListOk.f
  exact key 0 (Nat.zero_le _)
theorem impl_ListOk_ev (l : List Int) (hl : l.length < 9223372036854775807) : Ev (fun k => impl_ListOk.f k l) (lok l) := by
  have key : ∀ i, i ≤ l.length → Ev (fun k => impl_ListOk.l0 k l l (l.length : Int) (i : Int)) (lokP (prevI l i) (l.drop i) && decide (l.length ≤ 40)) := by
    refine from_index ?_ ?_
    · refine Ev.step (fun k => by rw [impl_ListOk.l0]) ?_
      simp only [nat_nlt (Nat.le_refl _), if_false]
      refine Ev.const ?_
      rw [List.drop_length]
      simp only [lokP, Bool.true_and]
      congr 1
      exact decide_eq_decide.mpr (by omega)
    · intro i hi ih
      refine Ev.step (fun k => by rw [impl_ListOk.l0]) ?_
      rw [lokP_step l i hi]
      simp only [nat_lt hi, nat_pos, if_true, rd_nat, getD_of hi, wrap_succ (show i < 9223372036854775807 by omega), wrap_pred (show i < 9223372036854775807 by omega)]
      by_cases a : l[i] < 0
      · have a' : ¬ 0 ≤ l[i] := by omega
        simp only [a, if_true, a', decide_false, Bool.false_and]
        exact Ev.now _
      · have a' : 0 ≤ l[i] := by omega
        simp only [a, if_false, a', decide_true, Bool.true_and]
        by_cases c : 0 < i
        · have c1 : ((i : Int) > 0) = True := by simp [c]
          have c2 : (0 ≤ (i : Int) - 1) = True := by simp; omega
          have c3 : ((i : Int) - 1 < (l.length : Int)) = True := by simp; omega
          simp only [c1, c2, c3, if_true, rd_pred l i c, if_pos c]
          by_cases d : (l.getD (i - 1) 0) < l[i]
          · simp only [ge_iff_le, Int.not_le.mpr d, if_false, d, decide_true, Bool.true_and]
            exact ih
          · simp only [ge_iff_le, Int.not_lt.mp d, if_true, d, decide_false, Bool.false_and]
            exact Ev.now _
        · have c1 : ((i : Int) > 0) = False := by simp; omega
          simp only [c1, if_false, if_neg c, Bool.true_and]
          exact ih
  unfold impl_ListOk.f
  exact key 0 (Nat.zero_le _)
theorem laws_toIntS_ev (l : List Int) (hl : l.length ≤ 1048576) : Ev (fun k => laws_toIntS.f k l) l := by
  have key : ∀ i, i ≤ l.length → Ev (fun k => laws_toIntS.l0 k l (fillTo l 0 i) (i : Int)) l := by
    refine from_index ?_ ?_
    · refine Ev.step (fun k => by rw [laws_toIntS.l0]) ?_
      simp only [nat_nlt (Nat.le_refl _), if_false]
      exact Ev.const (by rw [fillTo_all])
    · intro i hi ih
      refine Ev.step (fun k => by rw [laws_toIntS.l0]) ?_
      have e : (fillTo l 0 i).length = l.length := fillTo_length _ _ _ (by omega)
      simp only [nat_lt hi, nat_pos, if_true, rd_nat, getD_of hi, wrap_succ (show i < 9223372036854775807 by omega), e, Int.toNat_natCast, fillTo_set l 0 i hi]
      exact ih
  unfold laws_toIntS.f
  have c : (Int.toNat (l.length : Int) ≤ 35184372088832) = True := by simp; omega
  simp only [nat_pos, if_true, c]
  have := key 0 (Nat.zero_le _)
  rw [fillTo_zero] at this
  simp only [Int.toNat_natCast]
  exact this
theorem laws_eqIntS_refl (l : List Int) (hl : l.length < 9223372036854775807) : Ev (fun k => laws_eqIntS.f k l l) true := by
  have key : ∀ i, i ≤ l.length → Ev (fun k => laws_eqIntS.l0 k l l (i : Int)) true := by
    refine from_index ?_ ?_
    · refine Ev.step (fun k => by rw [laws_eqIntS.l0]) ?_
      simp only [nat_nlt (Nat.le_refl _), if_false]
      exact Ev.now _
    · intro i hi ih
      refine Ev.step (fun k => by rw [laws_eqIntS.l0]) ?_
      simp only [nat_lt hi, nat_pos, if_true, wrap_succ (show i < 9223372036854775807 by omega)]
      exact ih
  unfold laws_eqIntS.f
  simp only [if_true]
  exact key 0 (Nat.zero_le _)

theorem FnExactListOk : laws_FnExactListOk.Pure := by
  intro l _ _ _
  apply Ev.rounds
  unfold laws_FnExactListOk.f
  by_cases c : (l.length : Int) > 1048576
  · exact Ev.ifp c (Ev.now _)
  · refine Ev.ifn c ?_
    have hl : l.length ≤ 1048576 := by omega
    refine Ev.bind (laws_toIntS_ev l hl) ?_
    refine Ev.bind (spec_ListOk_ev _ (by omega)) ?_
    refine Ev.bind (laws_toIntS_ev l hl) ?_
    refine Ev.bind (impl_ListOk_ev _ (by omega)) ?_
    refine Ev.ifn (by simp) ?_
    refine Ev.bind (laws_toIntS_ev l hl) ?_
    refine Ev.bind (laws_eqIntS_refl _ (by omega)) ?_
    exact Ev.ifp rfl (Ev.now _)

end Go.Proofs.Ytidapbdlomjgcaa.Pure
