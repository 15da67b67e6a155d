/- A number of some bits is its higher part and its lower one, for the texts that are drawn; no condition. -/
import Derived.Test.YtidapbdlomjgcaaQFnBitsGetx3
import Derived.Test.YtidapbdlomjgcaaWOwn
set_option linter.unusedVariables false
set_option linter.unusedSimpArgs false
namespace Go.Proofs.Ytidapbdlomjgcaa.Pure
open Go.RowKit Go.Proofs.Ytidapbdlomjgcaa.QFnBitsGet Go.Proofs.YtidapbdlomjgcaaW.PrintWords Go.Proofs.YtidapbdlomjgcaaW.PrintLast Go.Proofs.YtidapbdlomjgcaaW.Own

theorem nat_lt {i n : Nat} (h : i < n) : ((i : Int) < (n : Int)) = True := by simp [h]
theorem nat_nlt {i n : Nat} (h : n ≤ i) : ((i : Int) < (n : Int)) = False := by simp [h]
theorem nat_pos (i : Nat) : (0 ≤ (i : Int)) = True := by simp
theorem wrap_succ {i : Nat} (h : i < 9223372036854775807) : wrap64 ((i : Int) + 1) = ((i + 1 : Nat) : Int) := by unfold wrap64; omega
theorem wrap_pred {i : Nat} (h : i < 9223372036854775807) : wrap64 ((i : Int) - 1) = (i : Int) - 1 := by unfold wrap64; omega
theorem wrap_sub {a : Int} {n : Nat} (h0 : 0 ≤ a) (h1 : a ≤ 9223372036854775807) (hn : n ≤ maxLen) : wrap64 (a - (n : Int)) = a - (n : Int) := by unfold wrap64; unfold maxLen at hn; omega
theorem rd_nat (l : List Int) (i : Nat) : rd l (i : Int) = l.getD i 0 := rfl
theorem getD_of {α : Type} {l : List α} {i : Nat} (h : i < l.length) (d : α) : l.getD i d = l[i] := by simp [List.getD, List.getElem?_eq_getElem h]
theorem drop_at {α : Type} {l : List α} {i : Nat} (h : i < l.length) : l.drop i = l[i] :: l.drop (i + 1) := List.drop_eq_getElem_cons h
theorem bt_nat (s : ByteArray) (i : Nat) (h : i < s.size) : bt s (i : Int) = ((s[i]'h).toNat : Int) := by
  unfold bt
  have : (i : Int).toNat = i := by omega
  simp [h]
/-- From an index on: at the end, and one round. -/
theorem from_index {P : Nat → Prop} {n : Nat} (h0 : P n) (h1 : ∀ i, i < n → P (i + 1) → P i) : ∀ i, i ≤ n → P i := by
  have key : ∀ d i, i + d = n → P i := by
    intro d
    induction d with
    | zero => intro i h; obtain rfl : i = n := by omega
              exact h0
    | succ d ih => intro i h; exact h1 i (by omega) (ih (i + 1) (by omega))
  intro i hi
  exact key (n - i) i (by omega)
/-- A row that is filled from the front. -/
def fillTo {α : Type} (xs : List α) (z : α) (i : Nat) : List α := xs.take i ++ List.replicate (xs.length - i) z
theorem fillTo_length {α : Type} (xs : List α) (z : α) (i : Nat) (h : i ≤ xs.length) : (fillTo xs z i).length = xs.length := by
  unfold fillTo; rw [List.length_append, List.length_take, List.length_replicate]; omega
theorem fillTo_zero {α : Type} (xs : List α) (z : α) : fillTo xs z 0 = List.replicate xs.length z := by simp [fillTo]
theorem fillTo_all {α : Type} (xs : List α) (z : α) : fillTo xs z xs.length = xs := by simp [fillTo]
theorem fillTo_set {α : Type} (xs : List α) (z : α) (i : Nat) (h : i < xs.length) : (fillTo xs z i).set i xs[i] = fillTo xs z (i + 1) := by
  unfold fillTo
  have hl : (xs.take i).length = i := by rw [List.length_take]; omega
  have e : xs.length - i = (xs.length - (i + 1)) + 1 := by omega
  rw [e, List.replicate_succ, List.set_append_right _ _ (by omega), hl, Nat.sub_self, List.set_cons_zero, List.take_succ_eq_append_getElem h, List.append_assoc]
  rfl
theorem get_step (s : ByteArray) (p : Nat) (hs : s.size ≤ 1048576) (hp : p < 8 * s.size) : Go.bits .and .i64 (shr .i64 (wrap64 (bt s (wrap64 (Int.tdiv (p : Int) 8)))) (wrap64 (7 - Int.tmod (p : Int) 8))) 1 = bitOf s p ∧ 0 ≤ wrap64 (Int.tdiv (p : Int) 8) ∧ wrap64 (Int.tdiv (p : Int) 8) < (s.size : Int) ∧ 0 ≤ wrap64 (7 - Int.tmod (p : Int) 8) := by
  have hp8 : p / 8 < s.size := by omega
  have e1 : Int.tdiv (p : Int) 8 = ((p / 8 : Nat) : Int) := by rw [Int.tdiv_eq_ediv_of_nonneg (by omega)]; omega
  have e2 : Int.tmod (p : Int) 8 = ((p % 8 : Nat) : Int) := by rw [Int.tmod_eq_emod_of_nonneg (by omega)]; omega
  have e3 : wrap64 ((p / 8 : Nat) : Int) = ((p / 8 : Nat) : Int) := wrap_in (by omega) (by omega)
  have e4 : wrap64 (7 - ((p % 8 : Nat) : Int)) = ((7 - p % 8 : Nat) : Int) := by rw [wrap_in (by omega) (by omega)]; omega
  rw [e1, e2, e3, e4]
  refine ⟨?_, by omega, by omega, by omega⟩
  have hb := (s[p / 8]'hp8).toNat_lt
  have eb : bt s ((p / 8 : Nat) : Int) = ((s[p / 8]'hp8).toNat : Int) := by
    unfold bt
    have e : ((p / 8 : Nat) : Int).toNat = p / 8 := by omega
    simp only [e]
    rw [dif_pos hp8]
  rw [eb, wrap_in (by omega) (by omega)]
  have e5 : shr .i64 ((s[p / 8]'hp8).toNat : Int) ((7 - p % 8 : Nat) : Int) = ((s[p / 8]'hp8).toNat : Int) / 2 ^ (7 - p % 8) := by
    unfold shr
    rw [Int.toNat_natCast, Nat.min_eq_left (by simp [IntKind.bits]; omega)]
  rw [e5]
  exact bitOf_eq s p (7 - p % 8) hp8 _ rfl rfl
theorem spec_l1Get_ev (s : ByteArray) (at_ wide : Nat) (hs : s.size ≤ 1048576) (hw : wide ≤ 60) (h : at_ + wide ≤ 8 * s.size) : Ev (fun k => spec_l1Get.f k s (at_ : Int) (wide : Int)) (numV s at_ wide) := by
  have key : ∀ i, i ≤ wide → Ev (fun k => spec_l1Get.l0 k s (at_ : Int) (wide : Int) (numV s at_ i) (i : Int)) (numV s at_ wide) := by
    refine from_index ?_ ?_
    · refine Ev.step (fun k => by rw [spec_l1Get.l0]) ?_
      exact Ev.ifn (by omega) (Ev.now _)
    · intro i hi ih
      refine Ev.step (fun k => by rw [spec_l1Get.l0]) ?_
      have e0 : wrap64 ((at_ : Int) + (i : Int)) = ((at_ + i : Nat) : Int) := by rw [wrap_in (by omega) (by omega)]; omega
      obtain ⟨g1, g2, g3, g4⟩ := get_step s (at_ + i) hs (by omega)
      have nr := numV_small s at_ i (by omega)
      have xr := bitOf_range s (at_ + i)
      rw [e0, g1, wrap_in (a := numV s at_ i * 2) (by omega) (by omega), wrap_in (a := numV s at_ i * 2 + bitOf s (at_ + i)) (by omega) (by omega), wrap_succ (show i < 9223372036854775807 by omega)]
      refine Ev.ifp (by omega) (Ev.ifp g2 (Ev.ifp g3 (Ev.ifp g4 ?_)))
      rw [show numV s at_ i * 2 + bitOf s (at_ + i) = numV s at_ (i + 1) by rw [numV]; omega]
      exact ih
  unfold spec_l1Get.f
  have := key 0 (Nat.zero_le _)
  exact this
def bitsOk (s : ByteArray) (a1 a2 : Int) : Bool := decide (1 ≤ a2 ∧ a2 ≤ 32 ∧ 0 ≤ a1 ∧ s.size ≤ 751 ∧ a1 + a2 ≤ 8 * (s.size : Int))
def bitsGetV (s : ByteArray) (a1 a2 : Int) : Int × Bool := if bitsOk s a1 a2 = true then (numV s a1.toNat a2.toNat, true) else (0, false)
theorem spec_BitsGet_ev (s : ByteArray) (a1 a2 : Int) (hs : s.size ≤ 1048576) (h0 : -9223372036854775808 ≤ a1) (h1 : a1 ≤ 9223372036854775807) : Ev (fun k => spec_BitsGet.f k s a1 a2) (bitsGetV s a1 a2) := by
  unfold spec_BitsGet.f bitsGetV bitsOk
  have l1 : ∀ a b c : Int, spec_l1In.f a b c = some (decide (b ≤ a ∧ a ≤ c)) := by
    intro a b c
    unfold spec_l1In.f
    by_cases h : b ≤ a
    · rw [if_pos h]
      exact congrArg some (decide_eq_decide.mpr ⟨fun g => ⟨h, g⟩, fun g => g.2⟩)
    · rw [if_neg h]
      exact congrArg some (decide_eq_false (fun g => h g.1)).symm
  refine Ev.bind (Ev.const (l1 _ _ _)) ?_
  by_cases c : 1 ≤ a2 ∧ a2 ≤ 32
  · refine Ev.ifp (decide_eq_true c) ?_
    by_cases d : (s.size : Int) > 751
    · rw [decide_eq_false (by omega)]
      exact Ev.ifp d (Ev.some_ rfl)
    · refine Ev.ifn d ?_
      have e : wrap64 (wrap64 (8 * (s.size : Int)) - a2) = 8 * (s.size : Int) - a2 := by rw [wrap_in (a := 8 * (s.size : Int)) (by omega) (by omega), wrap_in (by omega) (by omega)]
      rw [e]
      refine Ev.bind (Ev.const (l1 _ _ _)) ?_
      by_cases f : 0 ≤ a1 ∧ a1 ≤ 8 * (s.size : Int) - a2
      · refine Ev.ifp (decide_eq_true f) ?_
        rw [decide_eq_true (show 1 ≤ a2 ∧ a2 ≤ 32 ∧ 0 ≤ a1 ∧ s.size ≤ 751 ∧ a1 + a2 ≤ 8 * (s.size : Int) by omega)]
        have g := spec_l1Get_ev s a1.toNat a2.toNat (by omega) (by omega) (by omega)
        rw [Int.toNat_of_nonneg f.1, Int.toNat_of_nonneg (show 0 ≤ a2 by omega)] at g
        exact Ev.bind g (Ev.some_ rfl)
      · rw [decide_eq_false (show ¬ (1 ≤ a2 ∧ a2 ≤ 32 ∧ 0 ≤ a1 ∧ s.size ≤ 751 ∧ a1 + a2 ≤ 8 * (s.size : Int)) by omega)]
        exact Ev.ifn (by simpa using f) (Ev.some_ rfl)
  · rw [decide_eq_false (show ¬ (1 ≤ a2 ∧ a2 ≤ 32 ∧ 0 ≤ a1 ∧ s.size ≤ 751 ∧ a1 + a2 ≤ 8 * (s.size : Int)) by omega)]
    exact Ev.ifn (by simpa using c) (Ev.some_ rfl)
theorem impl_BitsGet_eq (s : ByteArray) (a1 a2 : Int) (hs : s.size ≤ 1048576) (h0 : -9223372036854775808 ≤ a1) (h1 : a1 ≤ 9223372036854775807) : impl_BitsGet.f s a1 a2 = some (bitsGetV s a1 a2) := by
  unfold impl_BitsGet.f bitsGetV bitsOk
  by_cases c1 : a2 < 1
  · rw [if_pos c1, decide_eq_false (by omega)]; rfl
  rw [if_neg c1]
  by_cases c2 : a2 > 32
  · rw [if_pos c2, decide_eq_false (by omega)]; rfl
  rw [if_neg c2]
  by_cases c3 : a1 < 0
  · rw [if_pos c3, decide_eq_false (by omega)]; rfl
  rw [if_neg c3]
  by_cases c4 : (s.size : Int) > 751
  · rw [if_pos c4, decide_eq_false (by omega)]; rfl
  rw [if_neg c4]
  have e : wrap64 (wrap64 (8 * (s.size : Int)) - a2) = 8 * (s.size : Int) - a2 := by rw [wrap_in (a := 8 * (s.size : Int)) (by omega) (by omega), wrap_in (by omega) (by omega)]
  rw [e]
  by_cases c5 : a1 > 8 * (s.size : Int) - a2
  · rw [if_pos c5, decide_eq_false (by omega)]; rfl
  rw [if_neg c5, decide_eq_true (show 1 ≤ a2 ∧ a2 ≤ 32 ∧ 0 ≤ a1 ∧ s.size ≤ 751 ∧ a1 + a2 ≤ 8 * (s.size : Int) by omega)]
  unfold impl_number.f
  rw [if_pos (by omega), Nat.min_eq_left (by omega), decide_eq_true (show a2.toNat ≤ 8 * s.size - a1.toNat by omega)]
  rfl
/-- bytes -/
def Bytes (b : List Int) : Prop := b.length ≤ 2000 ∧ ∀ x ∈ b, 0 ≤ x ∧ x ≤ 255
theorem rd_byte {b : List Int} (h : Bytes b) (i : Int) : 0 ≤ rd b i ∧ rd b i ≤ 255 := by
  unfold rd
  rw [List.getD_eq_getElem?_getD]
  cases e : b[i.toNat]? with
  | none => simp
  | some x => simpa using h.2 x (List.mem_of_getElem? e)
theorem xor_i64_range {a b : Int} (ha0 : 0 ≤ a) (ha : a < 4611686018427387904) (hb0 : 0 ≤ b) (hb : b < 4611686018427387904) : 0 ≤ Go.bits .xor .i64 a b := by
  obtain ⟨m, rfl⟩ := Int.eq_ofNat_of_zero_le ha0
  obtain ⟨n, rfl⟩ := Int.eq_ofNat_of_zero_le hb0
  have hx : m ^^^ n < 2 ^ 62 := Nat.xor_lt_two_pow (by omega) (by omega)
  have h1 : m % 2 ^ IntKind.i64.bits = m := Nat.mod_eq_of_lt (by simp [IntKind.bits]; omega)
  have h2 : n % 2 ^ IntKind.i64.bits = n := Nat.mod_eq_of_lt (by simp [IntKind.bits]; omega)
  simp only [Go.bits, BitVec.ofInt_natCast, BitVec.toNat_xor, BitVec.toNat_ofNat, h1, h2]
  rw [IntKind.wrap_i64]
  omega
theorem mix_range {u v k q : Int} (hu : 0 ≤ u ∧ u ≤ 255) (hv : 0 ≤ v ∧ v ≤ 255) (hk : 0 ≤ k ∧ k ≤ 1099511627776) (hq : 0 ≤ q ∧ q ≤ 1099511627776) :
    0 ≤ wrap64 ((wrap64 ((wrap64 ((wrap64 ((wrap64 u) * 131)) + (wrap64 ((wrap64 v) * 1117)))) + (wrap64 (k * 29)))) + (wrap64 ((wrap64 q) * 53))) ∧ wrap64 ((wrap64 ((wrap64 ((wrap64 ((wrap64 u) * 131)) + (wrap64 ((wrap64 v) * 1117)))) + (wrap64 (k * 29)))) + (wrap64 ((wrap64 q) * 53))) < 4611686018427387904 := by
  have e1 : wrap64 u = u := wrap_in (by omega) (by omega)
  have e2 : wrap64 v = v := wrap_in (by omega) (by omega)
  have e3 : wrap64 q = q := wrap_in (by omega) (by omega)
  rw [e1, e2, e3]
  clear e1 e2 e3
  have e4 : wrap64 (u * 131) = u * 131 := wrap_in (by omega) (by omega)
  have e5 : wrap64 (v * 1117) = v * 1117 := wrap_in (by omega) (by omega)
  have e6 : wrap64 (k * 29) = k * 29 := wrap_in (by omega) (by omega)
  have e7 : wrap64 (q * 53) = q * 53 := wrap_in (by omega) (by omega)
  rw [e4, e5, e6, e7]
  clear e4 e5 e6 e7
  have e8 : wrap64 (u * 131 + v * 1117) = u * 131 + v * 1117 := wrap_in (by omega) (by omega)
  rw [e8]
  clear e8
  have e9 : wrap64 (u * 131 + v * 1117 + k * 29) = u * 131 + v * 1117 + k * 29 := wrap_in (by omega) (by omega)
  rw [e9]
  clear e9
  have e10 : wrap64 (u * 131 + v * 1117 + k * 29 + q * 53) = u * 131 + v * 1117 + k * 29 + q * 53 := wrap_in (by omega) (by omega)
  rw [e10]
  clear e10
  omega
/-- A number is picked: it is below n, and the place is one on. -/
theorem pick_ev (b : List Int) (hb : Bytes b) (p n : Int) (hp0 : 0 ≤ p) (hp : p < 1099511627776) : ∃ v, Ev (fun k => spec_l1Rd_pick.f k b p n) (v, p + 1) ∧ 0 ≤ v ∧ (1 ≤ n → v < n) := by
  have hw : wrap64 (p + 1) = p + 1 := wrap_in (by omega) (by omega)
  have hw2 : wrap64 (p + 1 - 1) = p := (wrap_in (by omega) (by omega)).trans (by omega)
  by_cases hn : n < 1
  · refine ⟨0, ?_, by omega, by omega⟩
    unfold spec_l1Rd_pick.f
    refine Ev.ifp hn ?_
    refine Ev.step (fun k => by rw [spec_l1Rd_pick.j0]) ?_
    rw [hw]
    exact Ev.ifp rfl (Ev.now _)
  · by_cases hz : b.length = 0
    · refine ⟨0, ?_, by omega, by omega⟩
      unfold spec_l1Rd_pick.f
      refine Ev.ifn hn ?_
      refine Ev.step (fun k => by rw [spec_l1Rd_pick.j0]) ?_
      rw [hw]
      exact Ev.ifp (by rw [hz]; rfl) (Ev.now _)
    · have core : ∀ X : Int, 0 ≤ X → 0 ≤ Int.tmod X n ∧ Int.tmod X n < n := by
        intro X hX
        rw [Int.tmod_eq_emod_of_nonneg hX]
        exact ⟨Int.emod_nonneg _ (by omega), Int.emod_lt_of_pos _ (by omega)⟩
      have hn0 : ¬ n = 0 := by omega
      unfold spec_l1Rd_pick.f
      by_cases hlt : p < (b.length : Int)
      · have hr := rd_byte hb p
        have hwr : wrap64 (rd b p) = rd b p := wrap_in (by omega) (by omega)
        refine ⟨Int.tmod (rd b p) n, ?_, (core _ hr.1).1, fun _ => (core _ hr.1).2⟩
        refine Ev.ifn hn ?_
        refine Ev.step (fun k => by rw [spec_l1Rd_pick.j0]) ?_
        refine Ev.ifn (by simpa using hz) ?_
        rw [hw, hw2]
        refine Ev.ifp hlt (Ev.ifp hp0 (Ev.ifn hn0 ?_))
        rw [hwr]
        exact Ev.now _
      · have hlen : (b.length : Int) ≤ 2000 := by have := hb.1; omega
        have hi1 : 0 ≤ Int.tmod p (b.length : Int) ∧ Int.tmod p (b.length : Int) < (b.length : Int) := by
          rw [Int.tmod_eq_emod_of_nonneg hp0]
          exact ⟨Int.emod_nonneg _ (by omega), Int.emod_lt_of_pos _ (by omega)⟩
        have hj : wrap64 ((wrap64 (p * 7)) + 3) = p * 7 + 3 := by
          have : wrap64 (p * 7) = p * 7 := wrap_in (by omega) (by omega)
          rw [this]; exact wrap_in (by omega) (by omega)
        have hi2 : 0 ≤ Int.tmod (p * 7 + 3) (b.length : Int) ∧ Int.tmod (p * 7 + 3) (b.length : Int) < (b.length : Int) := by
          rw [Int.tmod_eq_emod_of_nonneg (by omega)]
          exact ⟨Int.emod_nonneg _ (by omega), Int.emod_lt_of_pos _ (by omega)⟩
        have hq : 0 ≤ Int.tdiv p (b.length : Int) ∧ Int.tdiv p (b.length : Int) ≤ 1099511627776 := by
          rw [Int.tdiv_eq_ediv_of_nonneg hp0]
          have h1 := Int.ediv_nonneg hp0 (show 0 ≤ (b.length : Int) by omega)
          have h2 := Int.ediv_le_self (b.length : Int) hp0
          omega
        have hA := mix_range (rd_byte hb (Int.tmod p (b.length : Int))) (rd_byte hb (Int.tmod (p * 7 + 3) (b.length : Int))) (k := p) ⟨hp0, by omega⟩ hq
        generalize hX : wrap64 ((wrap64 ((wrap64 ((wrap64 ((wrap64 (rd b (Int.tmod p (b.length : Int)))) * 131)) + (wrap64 ((wrap64 (rd b (Int.tmod (p * 7 + 3) (b.length : Int)))) * 1117)))) + (wrap64 (p * 29)))) + (wrap64 ((wrap64 (Int.tdiv p (b.length : Int))) * 53))) = X at hA
        have hY : 0 ≤ wrap64 (Int.tdiv X 64) ∧ wrap64 (Int.tdiv X 64) < 4611686018427387904 := by
          rw [Int.tdiv_eq_ediv_of_nonneg hA.1, wrap_in (by omega) (by omega)]; omega
        have hxor := xor_i64_range hA.1 hA.2 hY.1 hY.2
        refine ⟨Int.tmod (Go.bits .xor .i64 X (wrap64 (Int.tdiv X 64))) n, ?_, (core _ hxor).1, fun _ => (core _ hxor).2⟩
        refine Ev.ifn hn ?_
        refine Ev.step (fun k => by rw [spec_l1Rd_pick.j0]) ?_
        refine Ev.ifn (by simpa using hz) ?_
        rw [hw, hw2, hj]
        refine Ev.ifn hlt (Ev.ifn (by omega) (Ev.ifp hi1.1 (Ev.ifp hi1.2 (Ev.ifp hi2.1 (Ev.ifp hi2.2 (Ev.ifn hn0 ?_))))))
        rw [hX]
        exact Ev.now _
theorem open_eq (l : List Int) (hl : l.length ≤ maxLen) (h : ∀ x ∈ l, (Lit.int .u8 x).wf = true) : ∃ b, spec_l1Open.f l = some (b, 0) ∧ Bytes b := by
  have hw : ∀ x ∈ l, 0 ≤ x ∧ x ≤ 255 := fun x hx => wf_u8 (h x hx)
  unfold spec_l1Open.f
  by_cases c : (l.length : Int) > 2000
  · rw [if_pos c, if_pos (by omega)]
    exact ⟨_, rfl, by rw [List.length_take]; omega, fun x hx => hw x (List.mem_of_mem_take hx)⟩
  · rw [if_neg c]
    exact ⟨_, rfl, by omega, hw⟩
theorem one_ev (b : List Int) (hb : Bytes b) (p : Int) (hp0 : 0 ≤ p) (hp : p < 1099511627776) (l : List Int) (hl : 0 < l.length) : ∃ v, Ev (fun k => spec_l1Rd_one.f k b p l) (v, p + 1) ∧ v ∈ l := by
  obtain ⟨i, he, h0, h1⟩ := pick_ev b hb p (l.length : Int) hp0 hp
  have h1' := h1 (by omega)
  refine ⟨rd l i, ?_, ?_⟩
  · unfold spec_l1Rd_one.f
    refine Ev.bind he ?_
    exact Ev.ifp h0 (Ev.ifp h1' (Ev.now _))
  · unfold rd
    rw [getD_of (show i.toNat < l.length by omega)]
    exact List.getElem_mem _
theorem l13Bytes_l0 (b : List Int) (hb : Bytes b) : ∀ (d : Nat) (x : List Int) (p : Int), d ≤ 100 → 0 ≤ p → p + 3 * d ≤ 900000 → x.length + d ≤ 200 → (∀ n ∈ x, 0 ≤ n ∧ n < 256) → ∃ ns q, Ev (fun k => spec_l13Bytes.l0 k x (d : Int) b p) (strOfNums ns, q) ∧ ns.length ≤ x.length + d ∧ (∀ n ∈ ns, 0 ≤ n ∧ n < 256) ∧ p ≤ q ∧ q ≤ p + 3 * d
  | 0, x, p, hd, h0, h1, hx, hn => by
    refine ⟨x, p, ?_, by omega, hn, by omega, by omega⟩
    refine Ev.step (fun k => by rw [spec_l13Bytes.l0]) ?_
    exact Ev.ifn (by simp) (Ev.now _)
  | d + 1, x, p, hd, h0, h1, hx, hn => by
    obtain ⟨v, e, v0, v1⟩ := pick_ev b hb p 256 h0 (by omega)
    obtain ⟨u, e', u0, u1⟩ := pick_ev b hb (p + 1) 256 (by omega) (by omega)
    obtain ⟨t, e2, _⟩ := one_ev b hb (p + 1 + 1) (by omega) (by omega) [0, 255, 128, 1, v, u] (by simp)
    obtain ⟨ns, q, e3, hl, hr, hq0, hq1⟩ := l13Bytes_l0 b hb d (x ++ [t % 256]) (p + 1 + 1 + 1) (by omega) (by omega) (by omega) (by rw [List.length_append]; simp only [List.length_cons, List.length_nil]; omega) (by
      intro n hn'
      rcases List.mem_append.mp hn' with h | h
      · exact hn n h
      · rw [List.mem_singleton.mp h]; omega)
    refine ⟨ns, q, ?_, by rw [List.length_append] at hl; simp only [List.length_cons, List.length_nil] at hl; omega, hr, by omega, by omega⟩
    refine Ev.step (fun k => by rw [spec_l13Bytes.l0]) ?_
    have hw : wrap64 (((d + 1 : Nat) : Int) - 1) = (d : Int) := (wrap_in (by omega) (by omega)).trans (by omega)
    rw [hw]
    exact Ev.ifp (by omega) (Ev.bind e (Ev.bind e' (Ev.bind e2 (Ev.ifp (by omega) e3))))
theorem l13Bytes_ev (b : List Int) (hb : Bytes b) (p : Int) (h0 : 0 ≤ p) (h1 : p ≤ 800000) : ∃ ns q, Ev (fun k => spec_l13Bytes.f k b p) (strOfNums ns, q) ∧ ns.length ≤ 12 ∧ (∀ n ∈ ns, 0 ≤ n ∧ n < 256) ∧ p ≤ q ∧ q ≤ p + 40 := by
  obtain ⟨v, e, v0, v1⟩ := pick_ev b hb p 12 h0 (by omega)
  have v1 := v1 (by omega)
  obtain ⟨n, rfl⟩ := Int.eq_ofNat_of_zero_le v0
  obtain ⟨ns, q, e2, hl, hr, hq0, hq1⟩ := l13Bytes_l0 b hb n [] (p + 1) (by omega) (by omega) (by omega) (by simp; omega) (by simp)
  refine ⟨ns, q, ?_, by simp at hl; omega, hr, by omega, by omega⟩
  unfold spec_l13Bytes.f
  exact Ev.bind e e2

theorem numV_split (s : ByteArray) (at_ : Nat) : ∀ k, numV s at_ (k + 1) = numV s at_ 1 * ((2 ^ k : Nat) : Int) + numV s (at_ + 1) k
  | 0 => by
    show numV s at_ 1 = numV s at_ 1 * ((1 : Nat) : Int) + 0
    omega
  | k + 1 => by
    have e1 : numV s at_ (k + 1 + 1) = 2 * numV s at_ (k + 1) + bitOf s (at_ + (k + 1)) := rfl
    have e2 : numV s (at_ + 1) (k + 1) = 2 * numV s (at_ + 1) k + bitOf s (at_ + 1 + k) := rfl
    rw [e1, e2, numV_split s at_ k, show at_ + (k + 1) = at_ + 1 + k by omega, Nat.pow_succ, Int.natCast_mul, ← Int.mul_assoc]
    omega
theorem units_ev (W : Nat) (hW : W ≤ 32) (n h l : Int) (e : n = wrap64 (wrap64 (h * ((2 ^ (W - 1) : Nat) : Int)) + l)) : ∀ i, i ≤ W → 1 ≤ i → Ev (fun k => laws_FnBitsGet.l0 k (W : Int) n h true l true ((2 ^ (i - 1) : Nat) : Int) (i : Int)) true := by
  refine from_index ?_ ?_
  · intro h1
    refine Ev.step (fun k => by rw [laws_FnBitsGet.l0]) ?_
    refine Ev.ifn (by omega) (Ev.ifp rfl (Ev.ifp rfl (Ev.some_ ?_)))
    rw [← e, beq_self_eq_true]
  · intro i hi ih h1
    refine Ev.step (fun k => by rw [laws_FnBitsGet.l0]) ?_
    have hp : 2 ^ (i - 1) ≤ 2 ^ 32 := Nat.pow_le_pow_right (by decide) (by omega)
    have h2 : wrap64 (2 * ((2 ^ (i - 1) : Nat) : Int)) = ((2 ^ (i + 1 - 1) : Nat) : Int) := by
      have e1 : 2 ^ (i + 1 - 1) = 2 * 2 ^ (i - 1) := by
        rw [show i + 1 - 1 = (i - 1) + 1 by omega, Nat.pow_succ]; omega
      rw [e1, wrap_in (by omega) (by omega)]; omega
    rw [h2, wrap_succ (show i < 9223372036854775807 by omega)]
    exact Ev.ifp (by omega) (ih (by omega))
theorem FnBitsGet : laws_FnBitsGet.Pure := by
  intro l hl _ h
  apply Ev.rounds
  unfold laws_FnBitsGet.f
  by_cases c : (l.length : Int) > 1048576
  · exact Ev.ifp c (Ev.now _)
  refine Ev.ifn c ?_
  obtain ⟨b, hb, hB⟩ := open_eq l hl h
  obtain ⟨ns, q, e1, hn, hr, h0, h1⟩ := l13Bytes_ev b hB 0 (by omega) (by omega)
  obtain ⟨v, e2, v0, v1⟩ := pick_ev b hB q 70 (by omega) (by omega)
  have v1 := v1 (by omega)
  obtain ⟨w, e3, hw⟩ := one_ev b hB (q + 1) (by omega) (by omega) [1, 8, 7, 32, 33, 0, 13] (by simp)
  have hsz : (strOfNums ns).size ≤ 12 := by
    have : (strOfNums ns).size = ns.length := by simp [strOfNums, ByteArray.size]
    omega
  have hv : wrap64 (v - 1) = v - 1 := wrap_in (by omega) (by omega)
  have D : Ev (fun k => spec_DrawBitsGet.f k l) (strOfNums ns, v - 1, w) := by
    unfold spec_DrawBitsGet.f
    rw [hb, ← hv]
    simp only [Option.bind_some]
    exact Ev.bind e1 (Ev.bind e2 (Ev.bind e3 (Ev.now _)))
  obtain ⟨s, hs⟩ : ∃ s, strOfNums ns = s := ⟨_, rfl⟩
  obtain ⟨a, ha⟩ : ∃ a, v - 1 = a := ⟨_, rfl⟩
  rw [hs, ha] at D
  rw [hs] at hsz
  refine Ev.bind D ?_
  refine Ev.bind (Ev.const (impl_BitsGet_eq s a w (by omega) (by omega) (by omega))) ?_
  refine Ev.bind (spec_BitsGet_ev s a w (by omega) (by omega) (by omega)) ?_
  refine Ev.ifp rfl (Ev.ifn (by simp) ?_)
  refine Ev.step (fun k => by rw [laws_FnBitsGet.j0]) ?_
  cases hok : bitsOk s a w
  · have e : bitsGetV s a w = (0, false) := by unfold bitsGetV; rw [hok]; rfl
    rw [e]
    exact Ev.ifp rfl (Ev.ifp rfl (Ev.now _))
  · have e : bitsGetV s a w = (numV s a.toNat w.toNat, true) := by unfold bitsGetV; rw [hok]; rfl
    have hk := of_decide_eq_true hok
    rw [e]
    refine Ev.ifn (by simp) ?_
    have eh : bitsGetV s a 1 = (numV s a.toNat 1, true) := by
      unfold bitsGetV bitsOk
      rw [decide_eq_true (by omega)]; rfl
    have H := impl_BitsGet_eq s a 1 (by omega) (by omega) (by omega)
    rw [eh] at H
    refine Ev.bind (Ev.const H) ?_
    have br := numV_small s a.toNat 1 (by omega)
    have b1 : numV s a.toNat 1 = 0 ∨ numV s a.toNat 1 = 1 := by
      have := bitOf_range s (a.toNat + 0)
      rw [numV, numV]
      omega
    by_cases c1 : w = 1
    · subst c1
      refine Ev.ifp rfl (Ev.ifp rfl (Ev.ifp rfl ?_))
      rcases b1 with b1 | b1
      · exact Ev.ifp b1 (Ev.now _)
      · refine Ev.ifn (by show ¬ numV s a.toNat 1 = 0; omega) (Ev.some_ ?_)
        show (numV s a.toNat 1 == 1) = true
        rw [b1]; rfl
    · refine Ev.ifn c1 ?_
      have ew : wrap64 (a + 1) = a + 1 := wrap_in (by omega) (by omega)
      have ew2 : wrap64 (w - 1) = w - 1 := wrap_in (by omega) (by omega)
      have el : bitsGetV s (a + 1) (w - 1) = (numV s (a.toNat + 1) (w.toNat - 1), true) := by
        unfold bitsGetV bitsOk
        rw [decide_eq_true (by omega), show (a + 1).toNat = a.toNat + 1 by omega, show (w - 1).toNat = w.toNat - 1 by omega]; rfl
      have L := impl_BitsGet_eq s (a + 1) (w - 1) (by omega) (by omega) (by omega)
      rw [el] at L
      rw [ew, ew2]
      refine Ev.bind (Ev.const L) ?_
      have U := units_ev w.toNat (by omega) (numV s a.toNat w.toNat) (numV s a.toNat 1) (numV s (a.toNat + 1) (w.toNat - 1)) (by
        have h2 := numV_split s a.toNat (w.toNat - 1)
        rw [show w.toNat - 1 + 1 = w.toNat by omega] at h2
        have h3 := numV_small s a.toNat w.toNat (by omega)
        have h4 := numV_small s (a.toNat + 1) (w.toNat - 1) (by omega)
        rw [wrap_in (a := numV s a.toNat 1 * _) (by omega) (by omega), ← h2, wrap_in (by omega) (by omega)]) 1 (by omega) (Nat.le_refl _)
      rw [Int.toNat_of_nonneg (show 0 ≤ w by omega)] at U
      exact U

end Go.Proofs.Ytidapbdlomjgcaa.Pure
