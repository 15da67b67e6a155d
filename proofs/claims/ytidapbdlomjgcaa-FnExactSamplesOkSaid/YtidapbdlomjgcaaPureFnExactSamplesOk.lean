/- The program's SamplesOk answers as the reference's, for every list of samples; no condition. -/
import Derived.Test.YtidapbdlomjgcaaFitFnExactSamplesOk
import Derived.Test.YtidapbdlomjgcaaWOwn
set_option linter.unusedVariables false
set_option linter.unusedSimpArgs false
namespace Go.Proofs.Ytidapbdlomjgcaa.Pure
open Go.RowKit Go.Proofs.Ytidapbdlomjgcaa.QFnExactSamplesOk Go.Proofs.YtidapbdlomjgcaaW.PrintWords Go.Proofs.YtidapbdlomjgcaaW.PrintLast Go.Proofs.YtidapbdlomjgcaaW.Own

theorem nat_lt {i n : Nat} (h : i < n) : ((i : Int) < (n : Int)) = True := by simp [h]
theorem nat_nlt {i n : Nat} (h : n ≤ i) : ((i : Int) < (n : Int)) = False := by simp [h]
theorem nat_pos (i : Nat) : (0 ≤ (i : Int)) = True := by simp
theorem wrap_succ {i : Nat} (h : i < 9223372036854775807) : wrap64 ((i : Int) + 1) = ((i + 1 : Nat) : Int) := by unfold wrap64; omega
theorem wrap_pred {i : Nat} (h : i < 9223372036854775807) : wrap64 ((i : Int) - 1) = (i : Int) - 1 := by unfold wrap64; omega
theorem wrap_sub {a : Int} {n : Nat} (h0 : 0 ≤ a) (h1 : a ≤ 9223372036854775807) (hn : n ≤ maxLen) : wrap64 (a - (n : Int)) = a - (n : Int) := by unfold wrap64; unfold maxLen at hn; omega
theorem rd_nat (l : List Int) (i : Nat) : rd l (i : Int) = l.getD i 0 := rfl
theorem getD_of {α : Type} {l : List α} {i : Nat} (h : i < l.length) (d : α) : l.getD i d = l[i] := by simp [List.getD, List.getElem?_eq_getElem h]
theorem drop_at {α : Type} {l : List α} {i : Nat} (h : i < l.length) : l.drop i = l[i] :: l.drop (i + 1) := List.drop_eq_getElem_cons h
theorem bt_nat (s : ByteArray) (i : Nat) (h : i < s.size) : bt s (i : Int) = ((s[i]'h).toNat : Int) := by
  unfold bt
  have : (i : Int).toNat = i := by omega
  simp [h]
/-- From an index on: at the end, and one round. -/
theorem from_index {P : Nat → Prop} {n : Nat} (h0 : P n) (h1 : ∀ i, i < n → P (i + 1) → P i) : ∀ i, i ≤ n → P i := by
  have key : ∀ d i, i + d = n → P i := by
    intro d
    induction d with
    | zero => intro i h; obtain rfl : i = n := by omega
              exact h0
    | succ d ih => intro i h; exact h1 i (by omega) (ih (i + 1) (by omega))
  intro i hi
  exact key (n - i) i (by omega)
/-- A row that is filled from the front. -/
def fillTo {α : Type} (xs : List α) (z : α) (i : Nat) : List α := xs.take i ++ List.replicate (xs.length - i) z
theorem fillTo_length {α : Type} (xs : List α) (z : α) (i : Nat) (h : i ≤ xs.length) : (fillTo xs z i).length = xs.length := by
  unfold fillTo; rw [List.length_append, List.length_take, List.length_replicate]; omega
theorem fillTo_zero {α : Type} (xs : List α) (z : α) : fillTo xs z 0 = List.replicate xs.length z := by simp [fillTo]
theorem fillTo_all {α : Type} (xs : List α) (z : α) : fillTo xs z xs.length = xs := by simp [fillTo]
theorem fillTo_set {α : Type} (xs : List α) (z : α) (i : Nat) (h : i < xs.length) : (fillTo xs z i).set i xs[i] = fillTo xs z (i + 1) := by
  unfold fillTo
  have hl : (xs.take i).length = i := by rw [List.length_take]; omega
  have e : xs.length - i = (xs.length - (i + 1)) + 1 := by omega
  rw [e, List.replicate_succ, List.set_append_right _ _ (by omega), hl, Nat.sub_self, List.set_cons_zero, List.take_succ_eq_append_getElem h, List.append_assoc]
  rfl
theorem spec_l1In_eq (a b c : Int) : spec_l1In.f a b c = some (decide (b ≤ a ∧ a ≤ c)) := by
  unfold spec_l1In.f
  by_cases h : a ≥ b
  · rw [if_pos h]
    have h' : b ≤ a := h
    simp [h']
  · rw [if_neg h]
    have h' : ¬ b ≤ a := h
    simp [h']
abbrev Smp := S61
def inR (x : Smp) : Bool := decide (0 ≤ x.f0 ∧ x.f0 ≤ 9999 ∧ 0 ≤ x.f1 ∧ x.f1 ≤ 2147483647)
def sokP : Option Smp → List Smp → Bool
  | _, [] => true
  | p, x :: l => inR x && (match p with | none => true | some q => decide (q.f0 < x.f0)) && sokP (some x) l
def sok (l : List Smp) : Bool := sokP none l
def prevOf (l : List Smp) (i : Nat) : Option Smp := if i = 0 then none else some (l.getD (i - 1) z61)
theorem rdS_nat (l : List Smp) (i : Nat) : rd_T61 l (i : Int) = l.getD i z61 := rfl
theorem rdS_pred (l : List Smp) (i : Nat) (h : 0 < i) : rd_T61 l ((i : Int) - 1) = l.getD (i - 1) z61 := by
  unfold rd_T61
  congr 1
  omega
theorem sokP_cons (p : Option Smp) (x : Smp) (l : List Smp) : sokP p (x :: l) = (inR x && (match p with | none => true | some q => decide (q.f0 < x.f0)) && sokP (some x) l) := rfl
theorem prevOf_succ (l : List Smp) (i : Nat) (h : i < l.length) : prevOf l (i + 1) = some l[i] := by
  unfold prevOf
  rw [if_neg (by omega), Nat.add_sub_cancel, getD_of h]
theorem sokP_step (l : List Smp) (i : Nat) (h : i < l.length) : sokP (prevOf l i) (l.drop i) = (inR l[i] && (if 0 < i then decide ((l.getD (i - 1) z61).f0 < (l[i]).f0) else true) && sokP (prevOf l (i + 1)) (l.drop (i + 1))) := by
  rw [drop_at h, sokP_cons, prevOf_succ l i h]
  by_cases hi : i = 0
  · subst hi; rfl
  · unfold prevOf
    rw [if_neg hi, if_pos (by omega)]
theorem spec_l2Ok_ev (l : List Smp) (hl : l.length < 9223372036854775807) : Ev (fun k => spec_l2Ok.f k l) (sok l) := by
  have key : ∀ i, i ≤ l.length → Ev (fun k => spec_l2Ok.l0 k l (i : Int)) (sokP (prevOf l i) (l.drop i)) := by
    refine from_index ?_ ?_
    · refine Ev.step (fun k => by rw [spec_l2Ok.l0]) ?_
      simp only [nat_nlt (Nat.le_refl _), if_false]
      exact Ev.const (by simp [sokP])
    · intro i hi ih
      refine Ev.step (fun k => by rw [spec_l2Ok.l0]) ?_
      rw [sokP_step l i hi]
      simp only [nat_lt hi, nat_pos, if_true, spec_l1In_eq, Option.bind_some, rdS_nat, getD_of hi, wrap_succ (show i < 9223372036854775807 by omega), wrap_pred (show i < 9223372036854775807 by omega)]
      by_cases a : 0 ≤ (l[i]).f0 ∧ (l[i]).f0 ≤ 9999
      · simp only [a, and_self, decide_true, if_true]
        by_cases b : 0 ≤ (l[i]).f1 ∧ (l[i]).f1 ≤ 2147483647
        · have e : inR l[i] = true := by simp [inR, a, b]
          simp only [b, and_self, decide_true, if_true, e, Bool.true_and]
          by_cases c : 0 < i
          · have c1 : ((i : Int) > 0) = True := by simp [c]
            have c2 : (0 ≤ (i : Int) - 1) = True := by simp; omega
            have c3 : ((i : Int) - 1 < (l.length : Int)) = True := by simp; omega
            simp only [c1, c2, c3, if_true, rdS_pred l i c, if_pos c]
            by_cases d : (l.getD (i - 1) z61).f0 < (l[i]).f0
            · simp only [ge_iff_le, Int.not_le.mpr d, if_false, d, decide_true, Bool.true_and]
              exact ih
            · simp only [ge_iff_le, Int.not_lt.mp d, if_true, d, decide_false, Bool.false_and]
              exact Ev.now _
          · have c1 : ((i : Int) > 0) = False := by simp; omega
            simp only [c1, if_false, if_neg c, Bool.true_and]
            exact ih
        · have e : inR l[i] = false := by simp only [inR, decide_eq_false_iff_not]; exact fun h => b ⟨h.2.2.1, h.2.2.2⟩
          simp only [b, decide_false, e, Bool.false_and, Bool.false_eq_true, if_false]
          exact Ev.now _
      · have e : inR l[i] = false := by simp only [inR, decide_eq_false_iff_not]; exact fun h => a ⟨h.1, h.2.1⟩
        simp only [a, decide_false, e, Bool.false_and, Bool.false_eq_true, if_false]
        exact Ev.now _
  unfold spec_l2Ok.f sok
  exact key 0 (Nat.zero_le _)
theorem spec_SamplesOk_ev (l : List Smp) (hl : l.length < 9223372036854775807) : Ev (fun k => spec_SamplesOk.f k l) (sok l) := by
  unfold spec_SamplesOk.f
  exact Ev.bind (spec_l2Ok_ev l hl) (Ev.now _)
theorem impl_isTime_eq (a : Int) : impl_isTime.f a = some (decide (0 ≤ a ∧ a ≤ 9999)) := by
  unfold impl_isTime.f
  by_cases h : a ≥ 0
  · rw [if_pos h]; have h' : 0 ≤ a := h; simp [h']
  · rw [if_neg h]; have h' : ¬ 0 ≤ a := h; simp [h']
theorem impl_isValue_eq (a : Int) : impl_isValue.f a = some (decide (0 ≤ a ∧ a ≤ 2147483647)) := by
  unfold impl_isValue.f
  by_cases h : a ≥ 0
  · rw [if_pos h]; have h' : 0 ≤ a := h; simp [h']
  · rw [if_neg h]; have h' : ¬ 0 ≤ a := h; simp [h']
theorem impl_SamplesOk_ev (l : List Smp) (hl : l.length < 9223372036854775807) : Ev (fun k => impl_SamplesOk.f k l) (sok l) := by
  have key : ∀ i, i ≤ l.length → Ev (fun k => impl_SamplesOk.l0 k l l (l.length : Int) (i : Int)) (sokP (prevOf l i) (l.drop i)) := by
    refine from_index ?_ ?_
    · refine Ev.step (fun k => by rw [impl_SamplesOk.l0]) ?_
      simp only [nat_nlt (Nat.le_refl _), if_false]
      exact Ev.const (by simp [sokP])
    · intro i hi ih
      refine Ev.step (fun k => by rw [impl_SamplesOk.l0]) ?_
      rw [sokP_step l i hi]
      simp only [nat_lt hi, nat_pos, if_true, impl_isTime_eq, impl_isValue_eq, Option.bind_some, rdS_nat, getD_of hi, wrap_succ (show i < 9223372036854775807 by omega), wrap_pred (show i < 9223372036854775807 by omega)]
      by_cases a : 0 ≤ (l[i]).f0 ∧ (l[i]).f0 ≤ 9999
      · simp only [a, and_self, decide_true, if_true]
        by_cases b : 0 ≤ (l[i]).f1 ∧ (l[i]).f1 ≤ 2147483647
        · have e : inR l[i] = true := by simp [inR, a, b]
          simp only [b, and_self, decide_true, if_true, e, Bool.true_and]
          by_cases c : 0 < i
          · have c1 : ((i : Int) > 0) = True := by simp [c]
            have c2 : (0 ≤ (i : Int) - 1) = True := by simp; omega
            have c3 : ((i : Int) - 1 < (l.length : Int)) = True := by simp; omega
            simp only [c1, c2, c3, if_true, rdS_pred l i c, if_pos c]
            by_cases d : (l.getD (i - 1) z61).f0 < (l[i]).f0
            · simp only [ge_iff_le, Int.not_le.mpr d, if_false, d, decide_true, Bool.true_and]
              exact ih
            · simp only [ge_iff_le, Int.not_lt.mp d, if_true, d, decide_false, Bool.false_and]
              exact Ev.now _
          · have c1 : ((i : Int) > 0) = False := by simp; omega
            simp only [c1, if_false, if_neg c, Bool.true_and]
            exact ih
        · have e : inR l[i] = false := by simp only [inR, decide_eq_false_iff_not]; exact fun h => b ⟨h.2.2.1, h.2.2.2⟩
          simp only [b, decide_false, e, Bool.false_and, Bool.false_eq_true, if_false]
          exact Ev.now _
      · have e : inR l[i] = false := by simp only [inR, decide_eq_false_iff_not]; exact fun h => a ⟨h.1, h.2.1⟩
        simp only [a, decide_false, e, Bool.false_and, Bool.false_eq_true, if_false]
        exact Ev.now _
  unfold impl_SamplesOk.f sok
  exact key 0 (Nat.zero_le _)
abbrev LSmp := S63
def toSmp (x : LSmp) : Smp := ⟨x.f0, x.f1⟩
theorem rdL_nat (l : List LSmp) (i : Nat) : rd_T63 l (i : Int) = l.getD i z63 := rfl
theorem laws_toSampleS_ev (l : List LSmp) (hl : l.length ≤ 1048576) : Ev (fun k => laws_toSampleS.f k l) (l.map toSmp) := by
  have hm : (l.map toSmp).length = l.length := List.length_map _
  have key : ∀ i, i ≤ l.length → Ev (fun k => laws_toSampleS.l0 k l (fillTo (l.map toSmp) z61 i) (i : Int)) (l.map toSmp) := by
    refine from_index ?_ ?_
    · refine Ev.step (fun k => by rw [laws_toSampleS.l0]) ?_
      simp only [nat_nlt (Nat.le_refl _), if_false]
      exact Ev.const (by rw [← hm, fillTo_all])
    · intro i hi ih
      refine Ev.step (fun k => by rw [laws_toSampleS.l0]) ?_
      have e : (fillTo (l.map toSmp) z61 i).length = l.length := by rw [fillTo_length _ _ _ (by omega), hm]
      simp only [nat_lt hi, nat_pos, if_true, laws_toSample.f, Option.bind_some, rdL_nat, getD_of hi, wrap_succ (show i < 9223372036854775807 by omega), e, Int.toNat_natCast]
      have s := fillTo_set (l.map toSmp) z61 i (by omega)
      rw [List.getElem_map] at s
      show Ev (fun k => laws_toSampleS.l0 k l ((fillTo (l.map toSmp) z61 i).set i (toSmp l[i])) ((i + 1 : Nat) : Int)) _
      rw [s]
      exact ih
  unfold laws_toSampleS.f
  have c : (Int.toNat (l.length : Int) ≤ 17592186044416) = True := by simp; omega
  simp only [nat_pos, if_true, c]
  have := key 0 (Nat.zero_le _)
  rw [fillTo_zero, hm] at this
  simp only [Int.toNat_natCast]
  exact this
theorem laws_eqSampleS_refl (l : List Smp) (hl : l.length < 9223372036854775807) : Ev (fun k => laws_eqSampleS.f k l l) true := by
  have key : ∀ i, i ≤ l.length → Ev (fun k => laws_eqSampleS.l0 k l l (i : Int)) true := by
    refine from_index ?_ ?_
    · refine Ev.step (fun k => by rw [laws_eqSampleS.l0]) ?_
      simp only [nat_nlt (Nat.le_refl _), if_false]
      exact Ev.now _
    · intro i hi ih
      refine Ev.step (fun k => by rw [laws_eqSampleS.l0]) ?_
      simp only [nat_lt hi, nat_pos, if_true, laws_eqSample.f, Option.bind_some, wrap_succ (show i < 9223372036854775807 by omega)]
      exact ih
  unfold laws_eqSampleS.f
  simp only [if_true]
  exact key 0 (Nat.zero_le _)
theorem laws_szSampleS_eq (l : List LSmp) (hl : l.length ≤ maxLen) (a : Int) (h0 : 0 ≤ a) (h1 : a ≤ 1048576) : laws_szSampleS.f l a = some (if a - (l.length : Int) < 0 then -1 else a - (l.length : Int)) := by
  unfold laws_szSampleS.f
  rw [wrap_sub h0 (by omega) hl]
  split <;> rfl

theorem FnExactSamplesOk : laws_FnExactSamplesOk.Pure := by
  intro l hfit
  apply Ev.rounds
  unfold laws_FnExactSamplesOk.f
  rw [laws_szSampleS_eq l hfit.1 1048576 (by omega) (by omega)]
  simp only [Option.bind_some]
  by_cases c : (1048576 : Int) - (l.length : Int) < 0
  · simp only [c, if_true]
    exact Ev.ifp (by decide) (Ev.now _)
  · simp only [c, if_false]
    have hl : l.length ≤ 1048576 := by omega
    have hm : (l.map toSmp).length = l.length := List.length_map _
    refine Ev.bind (laws_toSampleS_ev l hl) ?_
    refine Ev.bind (spec_SamplesOk_ev _ (by omega)) ?_
    refine Ev.bind (laws_toSampleS_ev l hl) ?_
    refine Ev.bind (impl_SamplesOk_ev _ (by omega)) ?_
    refine Ev.ifn (by simp) ?_
    refine Ev.bind (laws_toSampleS_ev l hl) ?_
    refine Ev.bind (laws_eqSampleS_refl _ (by omega)) ?_
    exact Ev.ifp rfl (Ev.now _)

end Go.Proofs.Ytidapbdlomjgcaa.Pure
