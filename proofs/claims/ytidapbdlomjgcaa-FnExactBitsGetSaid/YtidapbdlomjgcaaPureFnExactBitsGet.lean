/- The program's BitsGet answers as the reference's, for every text, place and width; no condition. -/
import Derived.Test.YtidapbdlomjgcaaQFnExactBitsGetx1
import Derived.Test.YtidapbdlomjgcaaWOwn
set_option linter.unusedVariables false
set_option linter.unusedSimpArgs false
namespace Go.Proofs.Ytidapbdlomjgcaa.Pure
open Go.RowKit Go.Proofs.Ytidapbdlomjgcaa.QFnExactBitsGet Go.Proofs.YtidapbdlomjgcaaW.PrintWords Go.Proofs.YtidapbdlomjgcaaW.PrintLast Go.Proofs.YtidapbdlomjgcaaW.Own

theorem nat_lt {i n : Nat} (h : i < n) : ((i : Int) < (n : Int)) = True := by simp [h]
theorem nat_nlt {i n : Nat} (h : n ≤ i) : ((i : Int) < (n : Int)) = False := by simp [h]
theorem nat_pos (i : Nat) : (0 ≤ (i : Int)) = True := by simp
theorem wrap_succ {i : Nat} (h : i < 9223372036854775807) : wrap64 ((i : Int) + 1) = ((i + 1 : Nat) : Int) := by unfold wrap64; omega
theorem wrap_pred {i : Nat} (h : i < 9223372036854775807) : wrap64 ((i : Int) - 1) = (i : Int) - 1 := by unfold wrap64; omega
theorem wrap_sub {a : Int} {n : Nat} (h0 : 0 ≤ a) (h1 : a ≤ 9223372036854775807) (hn : n ≤ maxLen) : wrap64 (a - (n : Int)) = a - (n : Int) := by unfold wrap64; unfold maxLen at hn; omega
theorem rd_nat (l : List Int) (i : Nat) : rd l (i : Int) = l.getD i 0 := rfl
theorem getD_of {α : Type} {l : List α} {i : Nat} (h : i < l.length) (d : α) : l.getD i d = l[i] := by simp [List.getD, List.getElem?_eq_getElem h]
theorem drop_at {α : Type} {l : List α} {i : Nat} (h : i < l.length) : l.drop i = l[i] :: l.drop (i + 1) := List.drop_eq_getElem_cons h
theorem bt_nat (s : ByteArray) (i : Nat) (h : i < s.size) : bt s (i : Int) = ((s[i]'h).toNat : Int) := by
  unfold bt
  have : (i : Int).toNat = i := by omega
  simp [h]
/-- From an index on: at the end, and one round. -/
theorem from_index {P : Nat → Prop} {n : Nat} (h0 : P n) (h1 : ∀ i, i < n → P (i + 1) → P i) : ∀ i, i ≤ n → P i := by
  have key : ∀ d i, i + d = n → P i := by
    intro d
    induction d with
    | zero => intro i h; obtain rfl : i = n := by omega
              exact h0
    | succ d ih => intro i h; exact h1 i (by omega) (ih (i + 1) (by omega))
  intro i hi
  exact key (n - i) i (by omega)
/-- A row that is filled from the front. -/
def fillTo {α : Type} (xs : List α) (z : α) (i : Nat) : List α := xs.take i ++ List.replicate (xs.length - i) z
theorem fillTo_length {α : Type} (xs : List α) (z : α) (i : Nat) (h : i ≤ xs.length) : (fillTo xs z i).length = xs.length := by
  unfold fillTo; rw [List.length_append, List.length_take, List.length_replicate]; omega
theorem fillTo_zero {α : Type} (xs : List α) (z : α) : fillTo xs z 0 = List.replicate xs.length z := by simp [fillTo]
theorem fillTo_all {α : Type} (xs : List α) (z : α) : fillTo xs z xs.length = xs := by simp [fillTo]
theorem fillTo_set {α : Type} (xs : List α) (z : α) (i : Nat) (h : i < xs.length) : (fillTo xs z i).set i xs[i] = fillTo xs z (i + 1) := by
  unfold fillTo
  have hl : (xs.take i).length = i := by rw [List.length_take]; omega
  have e : xs.length - i = (xs.length - (i + 1)) + 1 := by omega
  rw [e, List.replicate_succ, List.set_append_right _ _ (by omega), hl, Nat.sub_self, List.set_cons_zero, List.take_succ_eq_append_getElem h, List.append_assoc]
  rfl
theorem get_step (s : ByteArray) (p : Nat) (hs : s.size ≤ 1048576) (hp : p < 8 * s.size) : Go.bits .and .i64 (shr .i64 (wrap64 (bt s (wrap64 (Int.tdiv (p : Int) 8)))) (wrap64 (7 - Int.tmod (p : Int) 8))) 1 = bitOf s p ∧ 0 ≤ wrap64 (Int.tdiv (p : Int) 8) ∧ wrap64 (Int.tdiv (p : Int) 8) < (s.size : Int) ∧ 0 ≤ wrap64 (7 - Int.tmod (p : Int) 8) := by
  have hp8 : p / 8 < s.size := by omega
  have e1 : Int.tdiv (p : Int) 8 = ((p / 8 : Nat) : Int) := by rw [Int.tdiv_eq_ediv_of_nonneg (by omega)]; omega
  have e2 : Int.tmod (p : Int) 8 = ((p % 8 : Nat) : Int) := by rw [Int.tmod_eq_emod_of_nonneg (by omega)]; omega
  have e3 : wrap64 ((p / 8 : Nat) : Int) = ((p / 8 : Nat) : Int) := wrap_in (by omega) (by omega)
  have e4 : wrap64 (7 - ((p % 8 : Nat) : Int)) = ((7 - p % 8 : Nat) : Int) := by rw [wrap_in (by omega) (by omega)]; omega
  rw [e1, e2, e3, e4]
  refine ⟨?_, by omega, by omega, by omega⟩
  have hb := (s[p / 8]'hp8).toNat_lt
  have eb : bt s ((p / 8 : Nat) : Int) = ((s[p / 8]'hp8).toNat : Int) := by
    unfold bt
    have e : ((p / 8 : Nat) : Int).toNat = p / 8 := by omega
    simp only [e]
    rw [dif_pos hp8]
  rw [eb, wrap_in (by omega) (by omega)]
  have e5 : shr .i64 ((s[p / 8]'hp8).toNat : Int) ((7 - p % 8 : Nat) : Int) = ((s[p / 8]'hp8).toNat : Int) / 2 ^ (7 - p % 8) := by
    unfold shr
    rw [Int.toNat_natCast, Nat.min_eq_left (by simp [IntKind.bits]; omega)]
  rw [e5]
  exact bitOf_eq s p (7 - p % 8) hp8 _ rfl rfl
theorem spec_l1Get_ev (s : ByteArray) (at_ wide : Nat) (hs : s.size ≤ 1048576) (hw : wide ≤ 60) (h : at_ + wide ≤ 8 * s.size) : Ev (fun k => spec_l1Get.f k s (at_ : Int) (wide : Int)) (numV s at_ wide) := by
  have key : ∀ i, i ≤ wide → Ev (fun k => spec_l1Get.l0 k s (at_ : Int) (wide : Int) (numV s at_ i) (i : Int)) (numV s at_ wide) := by
    refine from_index ?_ ?_
    · refine Ev.step (fun k => by rw [spec_l1Get.l0]) ?_
      exact Ev.ifn (by omega) (Ev.now _)
    · intro i hi ih
      refine Ev.step (fun k => by rw [spec_l1Get.l0]) ?_
      have e0 : wrap64 ((at_ : Int) + (i : Int)) = ((at_ + i : Nat) : Int) := by rw [wrap_in (by omega) (by omega)]; omega
      obtain ⟨g1, g2, g3, g4⟩ := get_step s (at_ + i) hs (by omega)
      have nr := numV_small s at_ i (by omega)
      have xr := bitOf_range s (at_ + i)
      rw [e0, g1, wrap_in (a := numV s at_ i * 2) (by omega) (by omega), wrap_in (a := numV s at_ i * 2 + bitOf s (at_ + i)) (by omega) (by omega), wrap_succ (show i < 9223372036854775807 by omega)]
      refine Ev.ifp (by omega) (Ev.ifp g2 (Ev.ifp g3 (Ev.ifp g4 ?_)))
      rw [show numV s at_ i * 2 + bitOf s (at_ + i) = numV s at_ (i + 1) by rw [numV]; omega]
      exact ih
  unfold spec_l1Get.f
  have := key 0 (Nat.zero_le _)
  exact this
def bitsOk (s : ByteArray) (a1 a2 : Int) : Bool := decide (1 ≤ a2 ∧ a2 ≤ 32 ∧ 0 ≤ a1 ∧ s.size ≤ 751 ∧ a1 + a2 ≤ 8 * (s.size : Int))
def bitsGetV (s : ByteArray) (a1 a2 : Int) : Int × Bool := if bitsOk s a1 a2 = true then (numV s a1.toNat a2.toNat, true) else (0, false)
theorem spec_BitsGet_ev (s : ByteArray) (a1 a2 : Int) (hs : s.size ≤ 1048576) (h0 : -9223372036854775808 ≤ a1) (h1 : a1 ≤ 9223372036854775807) : Ev (fun k => spec_BitsGet.f k s a1 a2) (bitsGetV s a1 a2) := by
  unfold spec_BitsGet.f bitsGetV bitsOk
  have l1 : ∀ a b c : Int, spec_l1In.f a b c = some (decide (b ≤ a ∧ a ≤ c)) := by
    intro a b c
    unfold spec_l1In.f
    by_cases h : b ≤ a
    · rw [if_pos h]
      exact congrArg some (decide_eq_decide.mpr ⟨fun g => ⟨h, g⟩, fun g => g.2⟩)
    · rw [if_neg h]
      exact congrArg some (decide_eq_false (fun g => h g.1)).symm
  refine Ev.bind (Ev.const (l1 _ _ _)) ?_
  by_cases c : 1 ≤ a2 ∧ a2 ≤ 32
  · refine Ev.ifp (decide_eq_true c) ?_
    by_cases d : (s.size : Int) > 751
    · rw [decide_eq_false (by omega)]
      exact Ev.ifp d (Ev.some_ rfl)
    · refine Ev.ifn d ?_
      have e : wrap64 (wrap64 (8 * (s.size : Int)) - a2) = 8 * (s.size : Int) - a2 := by rw [wrap_in (a := 8 * (s.size : Int)) (by omega) (by omega), wrap_in (by omega) (by omega)]
      rw [e]
      refine Ev.bind (Ev.const (l1 _ _ _)) ?_
      by_cases f : 0 ≤ a1 ∧ a1 ≤ 8 * (s.size : Int) - a2
      · refine Ev.ifp (decide_eq_true f) ?_
        rw [decide_eq_true (show 1 ≤ a2 ∧ a2 ≤ 32 ∧ 0 ≤ a1 ∧ s.size ≤ 751 ∧ a1 + a2 ≤ 8 * (s.size : Int) by omega)]
        have g := spec_l1Get_ev s a1.toNat a2.toNat (by omega) (by omega) (by omega)
        rw [Int.toNat_of_nonneg f.1, Int.toNat_of_nonneg (show 0 ≤ a2 by omega)] at g
        exact Ev.bind g (Ev.some_ rfl)
      · rw [decide_eq_false (show ¬ (1 ≤ a2 ∧ a2 ≤ 32 ∧ 0 ≤ a1 ∧ s.size ≤ 751 ∧ a1 + a2 ≤ 8 * (s.size : Int)) by omega)]
        exact Ev.ifn (by simpa using f) (Ev.some_ rfl)
  · rw [decide_eq_false (show ¬ (1 ≤ a2 ∧ a2 ≤ 32 ∧ 0 ≤ a1 ∧ s.size ≤ 751 ∧ a1 + a2 ≤ 8 * (s.size : Int)) by omega)]
    exact Ev.ifn (by simpa using c) (Ev.some_ rfl)
theorem impl_BitsGet_eq (s : ByteArray) (a1 a2 : Int) (hs : s.size ≤ 1048576) (h0 : -9223372036854775808 ≤ a1) (h1 : a1 ≤ 9223372036854775807) : impl_BitsGet.f s a1 a2 = some (bitsGetV s a1 a2) := by
  unfold impl_BitsGet.f bitsGetV bitsOk
  by_cases c1 : a2 < 1
  · rw [if_pos c1, decide_eq_false (by omega)]; rfl
  rw [if_neg c1]
  by_cases c2 : a2 > 32
  · rw [if_pos c2, decide_eq_false (by omega)]; rfl
  rw [if_neg c2]
  by_cases c3 : a1 < 0
  · rw [if_pos c3, decide_eq_false (by omega)]; rfl
  rw [if_neg c3]
  by_cases c4 : (s.size : Int) > 751
  · rw [if_pos c4, decide_eq_false (by omega)]; rfl
  rw [if_neg c4]
  have e : wrap64 (wrap64 (8 * (s.size : Int)) - a2) = 8 * (s.size : Int) - a2 := by rw [wrap_in (a := 8 * (s.size : Int)) (by omega) (by omega), wrap_in (by omega) (by omega)]
  rw [e]
  by_cases c5 : a1 > 8 * (s.size : Int) - a2
  · rw [if_pos c5, decide_eq_false (by omega)]; rfl
  rw [if_neg c5, decide_eq_true (show 1 ≤ a2 ∧ a2 ≤ 32 ∧ 0 ≤ a1 ∧ s.size ≤ 751 ∧ a1 + a2 ≤ 8 * (s.size : Int) by omega)]
  unfold impl_number.f
  rw [if_pos (by omega), Nat.min_eq_left (by omega), decide_eq_true (show a2.toNat ≤ 8 * s.size - a1.toNat by omega)]
  rfl

theorem FnExactBitsGet : laws_FnExactBitsGet.Pure := by
  intro s a1 a2 _ h1 _
  obtain ⟨h0, h1⟩ := wf_i64 h1
  apply Ev.rounds
  unfold laws_FnExactBitsGet.f
  by_cases c : (s.size : Int) > 1048576
  · exact Ev.ifp c (Ev.now _)
  · refine Ev.ifn c ?_
    exact Ev.bind (spec_BitsGet_ev s a1 a2 (by omega) h0 h1) (Ev.bind (Ev.const (impl_BitsGet_eq s a1 a2 (by omega) h0 h1)) (Ev.ifp rfl (Ev.ifn (by simp) (Ev.now _))))

end Go.Proofs.Ytidapbdlomjgcaa.Pure
