/- The program's Crc32 is the reference's, for every text; no condition. -/
import Derived.Test.YtidapbdlomjgcaaPFnExactCrc32x1
import Derived.Test.YtidapbdlomjgcaaWOwn
set_option linter.unusedVariables false
set_option linter.unusedSimpArgs false
namespace Go.Proofs.Ytidapbdlomjgcaa.Pure
open Go.RowKit Go.Proofs.Ytidapbdlomjgcaa.PFnExactCrc32 Go.Proofs.YtidapbdlomjgcaaW.PrintWords Go.Proofs.YtidapbdlomjgcaaW.PrintLast Go.Proofs.YtidapbdlomjgcaaW.Own

theorem nat_lt {i n : Nat} (h : i < n) : ((i : Int) < (n : Int)) = True := by simp [h]
theorem nat_nlt {i n : Nat} (h : n ≤ i) : ((i : Int) < (n : Int)) = False := by simp [h]
theorem nat_pos (i : Nat) : (0 ≤ (i : Int)) = True := by simp
theorem wrap_succ {i : Nat} (h : i < 9223372036854775807) : wrap64 ((i : Int) + 1) = ((i + 1 : Nat) : Int) := by unfold wrap64; omega
theorem wrap_pred {i : Nat} (h : i < 9223372036854775807) : wrap64 ((i : Int) - 1) = (i : Int) - 1 := by unfold wrap64; omega
theorem wrap_sub {a : Int} {n : Nat} (h0 : 0 ≤ a) (h1 : a ≤ 9223372036854775807) (hn : n ≤ maxLen) : wrap64 (a - (n : Int)) = a - (n : Int) := by unfold wrap64; unfold maxLen at hn; omega
theorem rd_nat (l : List Int) (i : Nat) : rd l (i : Int) = l.getD i 0 := rfl
theorem getD_of {α : Type} {l : List α} {i : Nat} (h : i < l.length) (d : α) : l.getD i d = l[i] := by simp [List.getD, List.getElem?_eq_getElem h]
theorem drop_at {α : Type} {l : List α} {i : Nat} (h : i < l.length) : l.drop i = l[i] :: l.drop (i + 1) := List.drop_eq_getElem_cons h
theorem bt_nat (s : ByteArray) (i : Nat) (h : i < s.size) : bt s (i : Int) = ((s[i]'h).toNat : Int) := by
  unfold bt
  have : (i : Int).toNat = i := by omega
  simp [h]
/-- From an index on: at the end, and one round. -/
theorem from_index {P : Nat → Prop} {n : Nat} (h0 : P n) (h1 : ∀ i, i < n → P (i + 1) → P i) : ∀ i, i ≤ n → P i := by
  have key : ∀ d i, i + d = n → P i := by
    intro d
    induction d with
    | zero => intro i h; obtain rfl : i = n := by omega
              exact h0
    | succ d ih => intro i h; exact h1 i (by omega) (ih (i + 1) (by omega))
  intro i hi
  exact key (n - i) i (by omega)
/-- A row that is filled from the front. -/
def fillTo {α : Type} (xs : List α) (z : α) (i : Nat) : List α := xs.take i ++ List.replicate (xs.length - i) z
theorem fillTo_length {α : Type} (xs : List α) (z : α) (i : Nat) (h : i ≤ xs.length) : (fillTo xs z i).length = xs.length := by
  unfold fillTo; rw [List.length_append, List.length_take, List.length_replicate]; omega
theorem fillTo_zero {α : Type} (xs : List α) (z : α) : fillTo xs z 0 = List.replicate xs.length z := by simp [fillTo]
theorem fillTo_all {α : Type} (xs : List α) (z : α) : fillTo xs z xs.length = xs := by simp [fillTo]
theorem fillTo_set {α : Type} (xs : List α) (z : α) (i : Nat) (h : i < xs.length) : (fillTo xs z i).set i xs[i] = fillTo xs z (i + 1) := by
  unfold fillTo
  have hl : (xs.take i).length = i := by rw [List.length_take]; omega
  have e : xs.length - i = (xs.length - (i + 1)) + 1 := by omega
  rw [e, List.replicate_succ, List.set_append_right _ _ (by omega), hl, Nat.sub_self, List.set_cons_zero, List.take_succ_eq_append_getElem h, List.append_assoc]
  rfl
theorem xor_i64_nat (a b : Nat) (ha : a < 4294967296) (hb : b < 4294967296) : Go.bits .xor .i64 (a : Int) (b : Int) = ((a ^^^ b : Nat) : Int) := by
  have hx : a ^^^ b < 2 ^ 32 := Nat.xor_lt_two_pow (by omega) (by omega)
  have h1 : a % 2 ^ IntKind.i64.bits = a := Nat.mod_eq_of_lt (by simp [IntKind.bits]; omega)
  have h2 : b % 2 ^ IntKind.i64.bits = b := Nat.mod_eq_of_lt (by simp [IntKind.bits]; omega)
  simp only [Go.bits, BitVec.ofInt_natCast, BitVec.toNat_xor, BitVec.toNat_ofNat, h1, h2]
  rw [IntKind.wrap_i64]
  omega
def cbit (n : Nat) : Nat := if n % 2 = 1 then (n / 2) ^^^ 3988292384 else n / 2
def cbits : Nat → Nat → Nat
  | 0, n => n
  | j + 1, n => cbits j (cbit n)
def cbyte (n : Nat) (b : UInt8) : Nat := cbits 8 (n ^^^ b.toNat)
def crcN (bs : List UInt8) (n : Nat) : Nat := bs.foldl cbyte n
def crc (s : ByteArray) : Nat := crcN s.data.toList 4294967295 ^^^ 4294967295
theorem cbit_lt {n : Nat} (h : n < 4294967296) : cbit n < 4294967296 := by
  unfold cbit
  split
  · have : (n / 2) ^^^ 3988292384 < 2 ^ 32 := Nat.xor_lt_two_pow (by omega) (by omega)
    simpa using this
  · omega
theorem cbits_lt : ∀ (j n : Nat), n < 4294967296 → cbits j n < 4294967296
  | 0, _, h => h
  | j + 1, n, h => cbits_lt j _ (cbit_lt h)
theorem xor_byte_lt {n : Nat} (h : n < 4294967296) (b : UInt8) : n ^^^ b.toNat < 4294967296 := by
  have hb := b.toNat_lt
  have : n ^^^ b.toNat < 2 ^ 32 := Nat.xor_lt_two_pow (by omega) (by omega)
  simpa using this
theorem cbyte_lt {n : Nat} (h : n < 4294967296) (b : UInt8) : cbyte n b < 4294967296 := cbits_lt 8 _ (xor_byte_lt h b)
theorem crcN_lt : ∀ (bs : List UInt8) (n : Nat), n < 4294967296 → crcN bs n < 4294967296
  | [], _, h => h
  | b :: bs, n, h => crcN_lt bs _ (cbyte_lt h b)
theorem crc_lt (s : ByteArray) : crc s < 4294967296 := by
  have : crcN s.data.toList 4294967295 ^^^ 4294967295 < 2 ^ 32 := Nat.xor_lt_two_pow (crcN_lt _ _ (by omega)) (by omega)
  simpa [crc] using this
theorem size_data (s : ByteArray) : s.size = s.data.toList.length := by rw [Array.length_toList]; rfl
theorem half_nat (n : Nat) (h : n < 4294967296) : wrap64 (Int.tdiv (n : Int) 2) = ((n / 2 : Nat) : Int) := by
  have : Int.tdiv (n : Int) 2 = ((n / 2 : Nat) : Int) := by rw [Int.tdiv_eq_ediv_of_nonneg (by omega)]; omega
  rw [this]; unfold wrap64; omega
theorem odd_nat (n : Nat) : (Int.tmod (n : Int) 2 = 1) = (n % 2 = 1) := by
  rw [Int.tmod_eq_emod_of_nonneg (by omega)]
  apply propext; omega
theorem spec_Crc32_in (s : ByteArray) (r : Int) (i : Nat) (hi : i < 9223372036854775807) : ∀ (d j : Nat), j + d = 8 → ∀ n : Nat, n < 4294967296 → Ev (fun k => spec_Crc32.l0 k s ((cbits d n : Nat) : Int) ((i + 1 : Nat) : Int)) r → Ev (fun k => spec_Crc32.l1 k s (n : Int) (i : Int) (j : Int)) r := by
  intro d
  induction d with
  | zero =>
    intro j hj n hn h
    refine Ev.step (fun k => by rw [spec_Crc32.l1]) ?_
    obtain rfl : j = 8 := by omega
    refine Ev.ifn (by decide) ?_
    rw [wrap_succ hi]
    exact h
  | succ d ih =>
    intro j hj n hn h
    refine Ev.step (fun k => by rw [spec_Crc32.l1]) ?_
    refine Ev.ifp (by omega) ?_
    simp only [odd_nat, half_nat n hn, wrap_succ (show j < 9223372036854775807 by omega)]
    have hb := cbit_lt hn
    have hs : cbits (d + 1) n = cbits d (cbit n) := rfl
    rw [hs] at h
    have h2 := ih (j + 1) (by omega) (cbit n) hb h
    by_cases c : n % 2 = 1
    · refine Ev.ifp c ?_
      have e : cbit n = (n / 2) ^^^ 3988292384 := by unfold cbit; rw [if_pos c]
      rw [show (3988292384 : Int) = ((3988292384 : Nat) : Int) from rfl, xor_i64_nat _ _ (by omega) (by omega), ← e]
      exact h2
    · refine Ev.ifn c ?_
      have e : cbit n = n / 2 := by unfold cbit; rw [if_neg c]
      rw [← e]
      exact h2
theorem spec_Crc32_ev (s : ByteArray) (hl : s.size < 9223372036854775807) : Ev (fun k => spec_Crc32.f k s) (crc s : Int) := by
  have key : ∀ i, i ≤ s.size → ∀ n : Nat, n < 4294967296 → Ev (fun k => spec_Crc32.l0 k s (n : Int) (i : Int)) ((crcN (s.data.toList.drop i) n ^^^ 4294967295 : Nat) : Int) := by
    refine from_index ?_ ?_
    · intro n hn
      refine Ev.step (fun k => by rw [spec_Crc32.l0]) ?_
      simp only [nat_nlt (Nat.le_refl _), if_false]
      rw [show (4294967295 : Int) = ((4294967295 : Nat) : Int) from rfl, xor_i64_nat _ _ hn (by omega), size_data, List.drop_length]
      exact Ev.now _
    · intro i hi ih n hn
      refine Ev.step (fun k => by rw [spec_Crc32.l0]) ?_
      simp only [nat_lt hi, nat_pos, if_true, bt_nat s i hi]
      have hi' : i < s.data.toList.length := by rw [← size_data]; exact hi
      have hb : wrap64 ((s[i]'hi).toNat : Int) = ((s[i]'hi).toNat : Int) := by have := (s[i]'hi).toNat_lt; unfold wrap64; omega
      have hbl := (s[i]'hi).toNat_lt
      rw [hb, xor_i64_nat _ _ hn (by omega), drop_at hi']
      have hx := xor_byte_lt hn (s[i]'hi)
      exact spec_Crc32_in s _ i (by omega) 8 0 (by omega) _ hx (ih (cbyte n (s[i]'hi)) (cbyte_lt hn _))
  unfold spec_Crc32.f
  have h := key 0 (Nat.zero_le _) 4294967295 (by omega)
  rw [List.drop_zero] at h
  exact h
theorem impl_Crc32_in (s : ByteArray) (r : Int) (i : Nat) (hi : i < 9223372036854775807) : ∀ (d j : Nat), j + d = 8 → ∀ n : Nat, n < 4294967296 → Ev (fun k => impl_Crc32.l0 k s ((cbits d n : Nat) : Int) (s.size : Int) ((i + 1 : Nat) : Int)) r → Ev (fun k => impl_Crc32.l1 k s (n : Int) (s.size : Int) (i : Int) (j : Int)) r := by
  intro d
  induction d with
  | zero =>
    intro j hj n hn h
    refine Ev.step (fun k => by rw [impl_Crc32.l1]) ?_
    obtain rfl : j = 8 := by omega
    refine Ev.ifn (by decide) ?_
    rw [wrap_succ hi]
    exact h
  | succ d ih =>
    intro j hj n hn h
    refine Ev.step (fun k => by rw [impl_Crc32.l1]) ?_
    refine Ev.ifp (by omega) ?_
    simp only [odd_nat, half_nat n hn, wrap_succ (show j < 9223372036854775807 by omega)]
    have hb := cbit_lt hn
    have hs : cbits (d + 1) n = cbits d (cbit n) := rfl
    rw [hs] at h
    have h2 := ih (j + 1) (by omega) (cbit n) hb h
    by_cases c : n % 2 = 1
    · refine Ev.ifp c ?_
      have e : cbit n = (n / 2) ^^^ 3988292384 := by unfold cbit; rw [if_pos c]
      rw [show (3988292384 : Int) = ((3988292384 : Nat) : Int) from rfl, xor_i64_nat _ _ (by omega) (by omega), ← e]
      exact h2
    · refine Ev.ifn c ?_
      have e : cbit n = n / 2 := by unfold cbit; rw [if_neg c]
      rw [← e]
      exact h2
theorem impl_Crc32_ev (s : ByteArray) (hl : s.size < 9223372036854775807) : Ev (fun k => impl_Crc32.f k s) (crc s : Int) := by
  have key : ∀ i, i ≤ s.size → ∀ n : Nat, n < 4294967296 → Ev (fun k => impl_Crc32.l0 k s (n : Int) (s.size : Int) (i : Int)) ((crcN (s.data.toList.drop i) n ^^^ 4294967295 : Nat) : Int) := by
    refine from_index ?_ ?_
    · intro n hn
      refine Ev.step (fun k => by rw [impl_Crc32.l0]) ?_
      simp only [nat_nlt (Nat.le_refl _), if_false]
      rw [show (4294967295 : Int) = ((4294967295 : Nat) : Int) from rfl, xor_i64_nat _ _ hn (by omega), size_data, List.drop_length]
      exact Ev.now _
    · intro i hi ih n hn
      refine Ev.step (fun k => by rw [impl_Crc32.l0]) ?_
      simp only [nat_lt hi, nat_pos, if_true, bt_nat s i hi]
      have hi' : i < s.data.toList.length := by rw [← size_data]; exact hi
      have hb : wrap64 ((s[i]'hi).toNat : Int) = ((s[i]'hi).toNat : Int) := by have := (s[i]'hi).toNat_lt; unfold wrap64; omega
      have hbl := (s[i]'hi).toNat_lt
      rw [hb, xor_i64_nat _ _ hn (by omega), drop_at hi']
      have hx := xor_byte_lt hn (s[i]'hi)
      exact impl_Crc32_in s _ i (by omega) 8 0 (by omega) _ hx (ih (cbyte n (s[i]'hi)) (cbyte_lt hn _))
  unfold impl_Crc32.f
  have h := key 0 (Nat.zero_le _) 4294967295 (by omega)
  rw [List.drop_zero] at h
  exact h

theorem FnExactCrc32 : laws_FnExactCrc32.Pure := by
  intro s hs
  apply Ev.rounds
  unfold laws_FnExactCrc32.f
  by_cases c : (s.size : Int) > 1048576
  · exact Ev.ifp c (Ev.now _)
  · refine Ev.ifn c ?_
    refine Ev.bind (spec_Crc32_ev s (by omega)) ?_
    refine Ev.bind (impl_Crc32_ev s (by omega)) ?_
    exact Ev.ifp rfl (Ev.now _)

end Go.Proofs.Ytidapbdlomjgcaa.Pure
