/- The program's Hex is the reference's, for every text; no condition. -/
import Derived.Test.YtidapbdlomjgcaaQFnExactHexx1
import Derived.Test.YtidapbdlomjgcaaWOwn
set_option linter.unusedVariables false
set_option linter.unusedSimpArgs false
namespace Go.Proofs.Ytidapbdlomjgcaa.Pure
open Go.RowKit Go.Proofs.Ytidapbdlomjgcaa.QFnExactHex Go.Proofs.YtidapbdlomjgcaaW.PrintWords Go.Proofs.YtidapbdlomjgcaaW.PrintLast Go.Proofs.YtidapbdlomjgcaaW.Own

theorem nat_lt {i n : Nat} (h : i < n) : ((i : Int) < (n : Int)) = True := by simp [h]
theorem nat_nlt {i n : Nat} (h : n ≤ i) : ((i : Int) < (n : Int)) = False := by simp [h]
theorem nat_pos (i : Nat) : (0 ≤ (i : Int)) = True := by simp
theorem wrap_succ {i : Nat} (h : i < 9223372036854775807) : wrap64 ((i : Int) + 1) = ((i + 1 : Nat) : Int) := by unfold wrap64; omega
theorem wrap_pred {i : Nat} (h : i < 9223372036854775807) : wrap64 ((i : Int) - 1) = (i : Int) - 1 := by unfold wrap64; omega
theorem wrap_sub {a : Int} {n : Nat} (h0 : 0 ≤ a) (h1 : a ≤ 9223372036854775807) (hn : n ≤ maxLen) : wrap64 (a - (n : Int)) = a - (n : Int) := by unfold wrap64; unfold maxLen at hn; omega
theorem rd_nat (l : List Int) (i : Nat) : rd l (i : Int) = l.getD i 0 := rfl
theorem getD_of {α : Type} {l : List α} {i : Nat} (h : i < l.length) (d : α) : l.getD i d = l[i] := by simp [List.getD, List.getElem?_eq_getElem h]
theorem drop_at {α : Type} {l : List α} {i : Nat} (h : i < l.length) : l.drop i = l[i] :: l.drop (i + 1) := List.drop_eq_getElem_cons h
theorem bt_nat (s : ByteArray) (i : Nat) (h : i < s.size) : bt s (i : Int) = ((s[i]'h).toNat : Int) := by
  unfold bt
  have : (i : Int).toNat = i := by omega
  simp [h]
/-- From an index on: at the end, and one round. -/
theorem from_index {P : Nat → Prop} {n : Nat} (h0 : P n) (h1 : ∀ i, i < n → P (i + 1) → P i) : ∀ i, i ≤ n → P i := by
  have key : ∀ d i, i + d = n → P i := by
    intro d
    induction d with
    | zero => intro i h; obtain rfl : i = n := by omega
              exact h0
    | succ d ih => intro i h; exact h1 i (by omega) (ih (i + 1) (by omega))
  intro i hi
  exact key (n - i) i (by omega)
/-- A row that is filled from the front. -/
def fillTo {α : Type} (xs : List α) (z : α) (i : Nat) : List α := xs.take i ++ List.replicate (xs.length - i) z
theorem fillTo_length {α : Type} (xs : List α) (z : α) (i : Nat) (h : i ≤ xs.length) : (fillTo xs z i).length = xs.length := by
  unfold fillTo; rw [List.length_append, List.length_take, List.length_replicate]; omega
theorem fillTo_zero {α : Type} (xs : List α) (z : α) : fillTo xs z 0 = List.replicate xs.length z := by simp [fillTo]
theorem fillTo_all {α : Type} (xs : List α) (z : α) : fillTo xs z xs.length = xs := by simp [fillTo]
theorem fillTo_set {α : Type} (xs : List α) (z : α) (i : Nat) (h : i < xs.length) : (fillTo xs z i).set i xs[i] = fillTo xs z (i + 1) := by
  unfold fillTo
  have hl : (xs.take i).length = i := by rw [List.length_take]; omega
  have e : xs.length - i = (xs.length - (i + 1)) + 1 := by omega
  rw [e, List.replicate_succ, List.set_append_right _ _ (by omega), hl, Nat.sub_self, List.set_cons_zero, List.take_succ_eq_append_getElem h, List.append_assoc]
  rfl
def HX : ByteArray := ⟨#[48, 49, 50, 51, 52, 53, 54, 55, 56, 57, 97, 98, 99, 100, 101, 102]⟩
def figs (b : Int) : List Int := [bt HX (b / 16), bt HX (b % 16)]
def hexN (bs : List UInt8) : List Int := bs.flatMap fun c => figs (c.toNat : Int)
theorem size_data (s : ByteArray) : s.size = s.data.toList.length := by rw [Array.length_toList]; rfl
theorem hexN_cons (c : UInt8) (bs : List UInt8) : hexN (c :: bs) = figs (c.toNat : Int) ++ hexN bs := rfl
theorem HX_size : (HX.size : Int) = 16 := rfl
theorem figs_len (b : Int) : (figs b).length = 2 := rfl
theorem spec_Hex_ev (s : ByteArray) (hl : s.size ≤ 1048576) : Ev (fun k => spec_Hex.f k s) (strOfNums (hexN s.data.toList)) := by
  have key : ∀ i, i ≤ s.size → ∀ acc : List Int, acc.length = 2 * i → Ev (fun k => spec_Hex.l0 k s HX acc (i : Int)) (strOfNums (acc ++ hexN (s.data.toList.drop i))) := by
    refine from_index ?_ ?_
    · intro acc _
      refine Ev.step (fun k => by rw [spec_Hex.l0]) ?_
      simp only [nat_nlt (Nat.le_refl _), if_false]
      exact Ev.const (by rw [size_data, List.drop_length]; simp [hexN])
    · intro i hi ih acc hacc
      refine Ev.step (fun k => by rw [spec_Hex.l0]) ?_
      have hi' : i < s.data.toList.length := by rw [← size_data]; exact hi
      have hb := (s[i]'hi).toNat_lt
      rw [drop_at hi', hexN_cons]
      have e1 : Int.tdiv ((s[i]'hi).toNat : Int) 16 % 256 = ((s[i]'hi).toNat : Int) / 16 := by rw [Int.tdiv_eq_ediv_of_nonneg (by omega)]; omega
      have e2 : Int.tmod ((s[i]'hi).toNat : Int) 16 = ((s[i]'hi).toNat : Int) % 16 := by rw [Int.tmod_eq_emod_of_nonneg (by omega)]
      simp only [nat_lt hi, nat_pos, if_true, bt_nat s i hi, e1, e2, HX_size, wrap_succ (show i < 9223372036854775807 by omega)]
      refine Ev.ifp (by omega) (Ev.ifp (by omega) (Ev.ifp (by omega) (Ev.ifp (by omega) ?_)))
      simp only [Option.bind_some]
      refine Ev.ifp (by simp; omega) ?_
      have h := ih (acc ++ figs ((s[i]'hi).toNat : Int)) (by rw [List.length_append, hacc, figs_len]; omega)
      rw [List.append_assoc] at h
      exact h
  unfold spec_Hex.f
  have h := key 0 (Nat.zero_le _) [] rfl
  rw [List.drop_zero, List.nil_append] at h
  exact h
theorem impl_Hex_ev (s : ByteArray) (hl : s.size ≤ 1048576) : Ev (fun k => impl_Hex.f k s) (strOfNums (hexN s.data.toList)) := by
  have key : ∀ i, i ≤ s.size → ∀ acc : List Int, acc.length = 2 * i → Ev (fun k => impl_Hex.l0 k s acc (s.size : Int) (i : Int)) (strOfNums (acc ++ hexN (s.data.toList.drop i))) := by
    refine from_index ?_ ?_
    · intro acc _
      refine Ev.step (fun k => by rw [impl_Hex.l0]) ?_
      simp only [nat_nlt (Nat.le_refl _), if_false]
      exact Ev.const (by rw [size_data, List.drop_length]; simp [hexN])
    · intro i hi ih acc hacc
      refine Ev.step (fun k => by rw [impl_Hex.l0]) ?_
      have hi' : i < s.data.toList.length := by rw [← size_data]; exact hi
      have hb := (s[i]'hi).toNat_lt
      rw [drop_at hi', hexN_cons]
      have e2 : Go.bits .and .u8 ((s[i]'hi).toNat : Int) 15 = ((s[i]'hi).toNat : Int) % 16 := u8_and15 _ (by omega) (by omega)
      simp only [nat_lt hi, nat_pos, if_true, bt_nat s i hi, e2, wrap_succ (show i < 9223372036854775807 by omega)]
      refine Ev.ifp (by omega) (Ev.ifp (by omega) (Ev.ifp (by omega) (Ev.ifp (by omega) ?_)))
      simp only [Option.bind_some]
      refine Ev.ifp (by simp; omega) ?_
      have h := ih (acc ++ figs ((s[i]'hi).toNat : Int)) (by rw [List.length_append, hacc, figs_len]; omega)
      rw [List.append_assoc] at h
      exact h
  unfold impl_Hex.f
  have w : wrap64 (2 * (s.size : Int)) = 2 * (s.size : Int) := by unfold wrap64; omega
  rw [w]
  refine Ev.ifp (by omega) (Ev.ifp (by omega) ?_)
  have h := key 0 (Nat.zero_le _) [] rfl
  rw [List.drop_zero, List.nil_append] at h
  exact h

theorem FnExactHex : laws_FnExactHex.Pure := by
  intro s hs
  apply Ev.rounds
  unfold laws_FnExactHex.f
  by_cases c : (s.size : Int) > 1048576
  · exact Ev.ifp c (Ev.now _)
  · refine Ev.ifn c ?_
    refine Ev.bind (spec_Hex_ev s (by omega)) ?_
    refine Ev.bind (impl_Hex_ev s (by omega)) ?_
    exact Ev.ifp rfl (Ev.now _)

end Go.Proofs.Ytidapbdlomjgcaa.Pure
