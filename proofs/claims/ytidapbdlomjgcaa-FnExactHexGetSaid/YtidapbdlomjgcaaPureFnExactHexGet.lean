/- The program's HexGet answers as the reference's, for every text; no condition. -/
import Derived.Test.YtidapbdlomjgcaaQFnExactHexGetx1
import Derived.Test.YtidapbdlomjgcaaWOwn
set_option linter.unusedVariables false
set_option linter.unusedSimpArgs false
namespace Go.Proofs.Ytidapbdlomjgcaa.Pure
open Go.RowKit Go.Proofs.Ytidapbdlomjgcaa.QFnExactHexGet Go.Proofs.YtidapbdlomjgcaaW.PrintWords Go.Proofs.YtidapbdlomjgcaaW.PrintLast Go.Proofs.YtidapbdlomjgcaaW.Own

theorem nat_lt {i n : Nat} (h : i < n) : ((i : Int) < (n : Int)) = True := by simp [h]
theorem nat_nlt {i n : Nat} (h : n ≤ i) : ((i : Int) < (n : Int)) = False := by simp [h]
theorem nat_pos (i : Nat) : (0 ≤ (i : Int)) = True := by simp
theorem wrap_succ {i : Nat} (h : i < 9223372036854775807) : wrap64 ((i : Int) + 1) = ((i + 1 : Nat) : Int) := by unfold wrap64; omega
theorem wrap_pred {i : Nat} (h : i < 9223372036854775807) : wrap64 ((i : Int) - 1) = (i : Int) - 1 := by unfold wrap64; omega
theorem wrap_sub {a : Int} {n : Nat} (h0 : 0 ≤ a) (h1 : a ≤ 9223372036854775807) (hn : n ≤ maxLen) : wrap64 (a - (n : Int)) = a - (n : Int) := by unfold wrap64; unfold maxLen at hn; omega
theorem rd_nat (l : List Int) (i : Nat) : rd l (i : Int) = l.getD i 0 := rfl
theorem getD_of {α : Type} {l : List α} {i : Nat} (h : i < l.length) (d : α) : l.getD i d = l[i] := by simp [List.getD, List.getElem?_eq_getElem h]
theorem drop_at {α : Type} {l : List α} {i : Nat} (h : i < l.length) : l.drop i = l[i] :: l.drop (i + 1) := List.drop_eq_getElem_cons h
theorem bt_nat (s : ByteArray) (i : Nat) (h : i < s.size) : bt s (i : Int) = ((s[i]'h).toNat : Int) := by
  unfold bt
  have : (i : Int).toNat = i := by omega
  simp [h]
/-- From an index on: at the end, and one round. -/
theorem from_index {P : Nat → Prop} {n : Nat} (h0 : P n) (h1 : ∀ i, i < n → P (i + 1) → P i) : ∀ i, i ≤ n → P i := by
  have key : ∀ d i, i + d = n → P i := by
    intro d
    induction d with
    | zero => intro i h; obtain rfl : i = n := by omega
              exact h0
    | succ d ih => intro i h; exact h1 i (by omega) (ih (i + 1) (by omega))
  intro i hi
  exact key (n - i) i (by omega)
/-- A row that is filled from the front. -/
def fillTo {α : Type} (xs : List α) (z : α) (i : Nat) : List α := xs.take i ++ List.replicate (xs.length - i) z
theorem fillTo_length {α : Type} (xs : List α) (z : α) (i : Nat) (h : i ≤ xs.length) : (fillTo xs z i).length = xs.length := by
  unfold fillTo; rw [List.length_append, List.length_take, List.length_replicate]; omega
theorem fillTo_zero {α : Type} (xs : List α) (z : α) : fillTo xs z 0 = List.replicate xs.length z := by simp [fillTo]
theorem fillTo_all {α : Type} (xs : List α) (z : α) : fillTo xs z xs.length = xs := by simp [fillTo]
theorem fillTo_set {α : Type} (xs : List α) (z : α) (i : Nat) (h : i < xs.length) : (fillTo xs z i).set i xs[i] = fillTo xs z (i + 1) := by
  unfold fillTo
  have hl : (xs.take i).length = i := by rw [List.length_take]; omega
  have e : xs.length - i = (xs.length - (i + 1)) + 1 := by omega
  rw [e, List.replicate_succ, List.set_append_right _ _ (by omega), hl, Nat.sub_self, List.set_cons_zero, List.take_succ_eq_append_getElem h, List.append_assoc]
  rfl
theorem size_data' (s : ByteArray) : s.size = s.data.toList.length := by rw [Array.length_toList]; rfl
theorem drop_two (s : ByteArray) (i : Nat) (h : i + 1 < s.size) : ∃ a b : UInt8, s.data.toList.drop i = a :: b :: s.data.toList.drop (i + 2) ∧ bt s (i : Int) = (a.toNat : Int) ∧ bt s ((i + 1 : Nat) : Int) = (b.toNat : Int) := by
  have h1 : i < s.data.toList.length := by rw [← size_data']; omega
  have h2 : i + 1 < s.data.toList.length := by rw [← size_data']; omega
  refine ⟨s.data.toList[i], s.data.toList[i + 1], ?_, bt_nat s i (by omega), bt_nat s (i + 1) h⟩
  rw [drop_at h1, drop_at h2]
theorem u8_range (a : UInt8) : 0 ≤ (a.toNat : Int) ∧ (a.toNat : Int) < 256 := by
  have := a.toNat_lt
  omega
theorem figV_dig {b : Int} (h : 48 ≤ b ∧ b ≤ 57) : figV b = b - 48 := if_pos h
theorem figV_let {b : Int} (h : 97 ≤ b ∧ b ≤ 102) : figV b = b - 87 := by unfold figV; rw [if_neg (by omega), if_pos h]
theorem figV_no {b : Int} (h1 : ¬ (48 ≤ b ∧ b ≤ 57)) (h2 : ¬ (97 ≤ b ∧ b ≤ 102)) : figV b = -1 := by unfold figV; rw [if_neg h1, if_neg h2]
theorem spec_l1Figure_ev (b : Int) (h : 0 ≤ b ∧ b < 256) : Ev (fun k => spec_l1Figure.f k b) (figV b) := by
  unfold spec_l1Figure.f
  by_cases c : b ≥ 48
  · refine Ev.ifp c ?_
    refine Ev.step (fun k => by rw [spec_l1Figure.j0]) ?_
    by_cases d : b ≤ 57
    · rw [figV_dig ⟨c, d⟩]
      exact Ev.ifp (decide_eq_true d) (Ev.some_ (by omega))
    · refine Ev.ifn (by simpa using d) ?_
      by_cases e : b ≥ 97
      · refine Ev.ifp e ?_
        by_cases f : b ≤ 102
        · rw [figV_let ⟨e, f⟩]
          exact Ev.ifp f (Ev.some_ (by omega))
        · rw [figV_no (by omega) (by omega)]
          exact Ev.ifn f (Ev.now _)
      · rw [figV_no (by omega) (by omega)]
        exact Ev.ifn e (Ev.now _)
  · refine Ev.ifn c ?_
    rw [figV_no (by omega) (by omega)]
    refine Ev.step (fun k => by rw [spec_l1Figure.j0]) ?_
    exact Ev.ifn (by decide) (Ev.ifn (by omega) (Ev.now _))
theorem spec_HexGet_ev (s : ByteArray) (hl : s.size ≤ 1048576) : Ev (fun k => spec_HexGet.f k s) (hexGetV s.data.toList []) := by
  have key : ∀ n i (acc : List Int), s.size - i ≤ n → i ≤ s.size → i % 2 = 0 → acc.length ≤ i → Ev (fun k => spec_HexGet.l0 k s acc (i : Int)) (hexGetV (s.data.toList.drop i) acc) := by
    intro n
    induction n with
    | zero =>
      intro i acc h0 h1 h2 h3
      refine Ev.step (fun k => by rw [spec_HexGet.l0]) ?_
      rw [wrap_succ (show i < 9223372036854775807 by omega), List.drop_eq_nil_of_le (by rw [← size_data']; omega), hexGetV]
      exact Ev.ifn (by omega) (Ev.ifn (by omega) (Ev.now _))
    | succ n ih =>
      intro i acc h0 h1 h2 h3
      refine Ev.step (fun k => by rw [spec_HexGet.l0]) ?_
      rw [wrap_succ (show i < 9223372036854775807 by omega)]
      by_cases c : i + 1 < s.size
      · obtain ⟨a, b, e1, e2, e3⟩ := drop_two s i c
        rw [e1, hexGetV, e2, e3]
        have ra := figV_lt (a.toNat : Int); have rb := figV_lt (b.toNat : Int)
        refine Ev.ifp (by omega) (Ev.ifp (by omega) (Ev.ifp (by omega) (Ev.bind (spec_l1Figure_ev _ (u8_range a)) (Ev.ifp (by omega) (Ev.bind (spec_l1Figure_ev _ (u8_range b)) ?_)))))
        by_cases p : figV (a.toNat : Int) < 0
        · rw [if_pos p]; exact Ev.ifp p (Ev.now _)
        · rw [if_neg p]
          refine Ev.ifn p ?_
          by_cases q : figV (b.toNat : Int) < 0
          · rw [if_pos q]; exact Ev.ifp q (Ev.now _)
          · rw [if_neg q]
            refine Ev.ifn q (Ev.ifp (by omega) ?_)
            have w1 : wrap64 (figV (a.toNat : Int) * 16) = 16 * figV (a.toNat : Int) := (wrap_in (by omega) (by omega)).trans (by omega)
            have w2 : wrap64 (16 * figV (a.toNat : Int) + figV (b.toNat : Int)) = 16 * figV (a.toNat : Int) + figV (b.toNat : Int) := wrap_in (by omega) (by omega)
            have w3 : wrap64 ((i : Int) + 2) = ((i + 2 : Nat) : Int) := (wrap_in (by omega) (by omega)).trans (by omega)
            rw [w1, w2, w3]
            exact ih (i + 2) _ (by omega) (by omega) (by omega) (by rw [List.length_append]; simp only [List.length_cons, List.length_nil]; omega)
      · refine Ev.ifn (by omega) ?_
        by_cases e : i = s.size
        · rw [List.drop_eq_nil_of_le (by rw [← size_data']; omega), hexGetV]
          exact Ev.ifn (by omega) (Ev.now _)
        · have e' : s.size = i + 1 := by omega
          rw [hexGetV_odd _ _ (by rw [List.length_drop, ← size_data']; omega)]
          exact Ev.ifp (by omega) (Ev.now _)
  unfold spec_HexGet.f
  exact key s.size 0 [] (by omega) (Nat.zero_le _) rfl (Nat.le_refl _)
theorem impl_HexGet_ev (s : ByteArray) (hl : s.size ≤ 1048576) : Ev (fun _ => impl_HexGet.f s) (hexGetV s.data.toList []) := by
  unfold impl_HexGet.f
  exact Ev.const (if_pos hl)

theorem FnExactHexGet : laws_FnExactHexGet.Pure := by
  intro s _
  apply Ev.rounds
  unfold laws_FnExactHexGet.f
  by_cases c : (s.size : Int) > 1048576
  · exact Ev.ifp c (Ev.now _)
  · refine Ev.ifn c ?_
    exact Ev.bind (spec_HexGet_ev s (by omega)) (Ev.bind (impl_HexGet_ev s (by omega)) (Ev.ifp rfl (Ev.ifn (by simp) (Ev.now _))))

end Go.Proofs.Ytidapbdlomjgcaa.Pure
