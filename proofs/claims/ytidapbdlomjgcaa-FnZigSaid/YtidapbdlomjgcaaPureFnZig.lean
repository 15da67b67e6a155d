/- Zag of Zig is the number within limits, and the other way round, of the two drawn numbers; both are the reference's; no condition. -/
import Derived.Test.YtidapbdlomjgcaaQFnZigx2
import Derived.Test.YtidapbdlomjgcaaWOwn
set_option linter.unusedVariables false
set_option linter.unusedSimpArgs false
namespace Go.Proofs.Ytidapbdlomjgcaa.Pure
open Go.RowKit Go.Proofs.Ytidapbdlomjgcaa.QFnZig Go.Proofs.YtidapbdlomjgcaaW.PrintWords Go.Proofs.YtidapbdlomjgcaaW.PrintLast Go.Proofs.YtidapbdlomjgcaaW.Own

theorem nat_lt {i n : Nat} (h : i < n) : ((i : Int) < (n : Int)) = True := by simp [h]
theorem nat_nlt {i n : Nat} (h : n ≤ i) : ((i : Int) < (n : Int)) = False := by simp [h]
theorem nat_pos (i : Nat) : (0 ≤ (i : Int)) = True := by simp
theorem wrap_succ {i : Nat} (h : i < 9223372036854775807) : wrap64 ((i : Int) + 1) = ((i + 1 : Nat) : Int) := by unfold wrap64; omega
theorem wrap_pred {i : Nat} (h : i < 9223372036854775807) : wrap64 ((i : Int) - 1) = (i : Int) - 1 := by unfold wrap64; omega
theorem wrap_sub {a : Int} {n : Nat} (h0 : 0 ≤ a) (h1 : a ≤ 9223372036854775807) (hn : n ≤ maxLen) : wrap64 (a - (n : Int)) = a - (n : Int) := by unfold wrap64; unfold maxLen at hn; omega
theorem rd_nat (l : List Int) (i : Nat) : rd l (i : Int) = l.getD i 0 := rfl
theorem getD_of {α : Type} {l : List α} {i : Nat} (h : i < l.length) (d : α) : l.getD i d = l[i] := by simp [List.getD, List.getElem?_eq_getElem h]
theorem drop_at {α : Type} {l : List α} {i : Nat} (h : i < l.length) : l.drop i = l[i] :: l.drop (i + 1) := List.drop_eq_getElem_cons h
theorem bt_nat (s : ByteArray) (i : Nat) (h : i < s.size) : bt s (i : Int) = ((s[i]'h).toNat : Int) := by
  unfold bt
  have : (i : Int).toNat = i := by omega
  simp [h]
/-- From an index on: at the end, and one round. -/
theorem from_index {P : Nat → Prop} {n : Nat} (h0 : P n) (h1 : ∀ i, i < n → P (i + 1) → P i) : ∀ i, i ≤ n → P i := by
  have key : ∀ d i, i + d = n → P i := by
    intro d
    induction d with
    | zero => intro i h; obtain rfl : i = n := by omega
              exact h0
    | succ d ih => intro i h; exact h1 i (by omega) (ih (i + 1) (by omega))
  intro i hi
  exact key (n - i) i (by omega)
/-- A row that is filled from the front. -/
def fillTo {α : Type} (xs : List α) (z : α) (i : Nat) : List α := xs.take i ++ List.replicate (xs.length - i) z
theorem fillTo_length {α : Type} (xs : List α) (z : α) (i : Nat) (h : i ≤ xs.length) : (fillTo xs z i).length = xs.length := by
  unfold fillTo; rw [List.length_append, List.length_take, List.length_replicate]; omega
theorem fillTo_zero {α : Type} (xs : List α) (z : α) : fillTo xs z 0 = List.replicate xs.length z := by simp [fillTo]
theorem fillTo_all {α : Type} (xs : List α) (z : α) : fillTo xs z xs.length = xs := by simp [fillTo]
theorem fillTo_set {α : Type} (xs : List α) (z : α) (i : Nat) (h : i < xs.length) : (fillTo xs z i).set i xs[i] = fillTo xs z (i + 1) := by
  unfold fillTo
  have hl : (xs.take i).length = i := by rw [List.length_take]; omega
  have e : xs.length - i = (xs.length - (i + 1)) + 1 := by omega
  rw [e, List.replicate_succ, List.set_append_right _ _ (by omega), hl, Nat.sub_self, List.set_cons_zero, List.take_succ_eq_append_getElem h, List.append_assoc]
  rfl
theorem spec_l1In_eq (a b c : Int) : spec_l1In.f a b c = some (decide (b ≤ a ∧ a ≤ c)) := by
  unfold spec_l1In.f
  by_cases h : a ≥ b
  · rw [if_pos h]
    have h' : b ≤ a := h
    simp [h']
  · rw [if_neg h]
    have h' : ¬ b ≤ a := h
    simp [h']
def zigV (a : Int) : Int := if -1073741823 ≤ a ∧ a ≤ 1073741823 then (if a < 0 then -2 * a - 1 else 2 * a) else 0
def zagV (a : Int) : Int := if 0 ≤ a ∧ a ≤ 2147483646 then (if a % 2 = 1 then -((a + 1) / 2) else a / 2) else 0
theorem spec_Zig_eq (a : Int) : spec_Zig.f a = some (zigV a) := by
  have e : wrap64 (-1073741823) = -1073741823 := by unfold wrap64; omega
  unfold spec_Zig.f spec_l1Zig.f zigV
  simp only [Option.bind_some, e, spec_l1In_eq]
  by_cases h : -1073741823 ≤ a ∧ a ≤ 1073741823
  · simp only [h, and_self, decide_true, if_true]
    by_cases h2 : a < 0
    · simp only [h2, if_true]; congr 1; unfold wrap64; omega
    · simp only [h2, if_false]; congr 1; unfold wrap64; omega
  · simp only [h, decide_false, if_false, Bool.false_eq_true]
theorem impl_Zig_ev (a : Int) : Ev (fun k => impl_Zig.f k a) (zigV a) := by
  unfold impl_Zig.f
  by_cases h : a < -1073741823
  · have e : zigV a = 0 := by unfold zigV; rw [if_neg (by omega)]
    rw [e]
    refine Ev.ifp h ?_
    refine Ev.step (fun k => by rw [impl_Zig.j0]) ?_
    exact Ev.ifp rfl (Ev.now _)
  · refine Ev.ifn h ?_
    refine Ev.step (fun k => by rw [impl_Zig.j0]) ?_
    by_cases h1 : a > 1073741823
    · have e : zigV a = 0 := by unfold zigV; rw [if_neg (by omega)]
      rw [e]
      exact Ev.ifp (decide_eq_true h1) (Ev.now _)
    · have e : zigV a = (if a < 0 then -2 * a - 1 else 2 * a) := by unfold zigV; rw [if_pos (by omega)]
      rw [e]
      refine Ev.ifn (by simpa using h1) ?_
      by_cases h2 : a < 0
      · refine Ev.ifp h2 (Ev.some_ ?_)
        rw [if_pos h2]
        unfold wrap64; omega
      · refine Ev.ifn h2 (Ev.some_ ?_)
        rw [if_neg h2]
        unfold wrap64; omega
theorem tm2 {a : Int} (h : 0 ≤ a) : (Int.tmod a 2 = 1) = (a % 2 = 1) := by rw [Int.tmod_eq_emod_of_nonneg h]
theorem half_up {a : Int} (h : 0 ≤ a) (h1 : a ≤ 2147483646) : wrap64 (Int.tdiv (wrap64 (-(wrap64 (a + 1)))) 2) = -((a + 1) / 2) := by
  have e : wrap64 (-(wrap64 (a + 1))) = -(a + 1) := by unfold wrap64; omega
  rw [e, Int.neg_tdiv, Int.tdiv_eq_ediv_of_nonneg (by omega)]
  unfold wrap64; omega
theorem half_dn {a : Int} (h : 0 ≤ a) (h1 : a ≤ 2147483646) : wrap64 (Int.tdiv a 2) = a / 2 := by
  rw [Int.tdiv_eq_ediv_of_nonneg h]
  unfold wrap64; omega
theorem spec_Zag_eq (a : Int) : spec_Zag.f a = some (zagV a) := by
  have e : wrap64 (2 * 1073741823) = 2147483646 := by unfold wrap64; omega
  unfold spec_Zag.f spec_l1Zig.f zagV
  simp only [Option.bind_some, spec_l1In_eq]
  rw [e]
  by_cases h : 0 ≤ a ∧ a ≤ 2147483646
  · simp only [h, and_self, decide_true, if_true, tm2 h.1, half_up h.1 h.2, half_dn h.1 h.2]
    split <;> rfl
  · simp only [h, decide_false, if_false, Bool.false_eq_true]
theorem impl_Zag_ev (a : Int) : Ev (fun k => impl_Zag.f k a) (zagV a) := by
  unfold impl_Zag.f
  by_cases h : a < 0
  · have e : zagV a = 0 := by unfold zagV; rw [if_neg (by omega)]
    rw [e]
    refine Ev.ifp h ?_
    refine Ev.step (fun k => by rw [impl_Zag.j0]) ?_
    exact Ev.ifp rfl (Ev.now _)
  · refine Ev.ifn h ?_
    refine Ev.step (fun k => by rw [impl_Zag.j0]) ?_
    by_cases h1 : a > 2147483646
    · have e : zagV a = 0 := by unfold zagV; rw [if_neg (by omega)]
      rw [e]
      exact Ev.ifp (decide_eq_true h1) (Ev.now _)
    · have e : zagV a = (if a % 2 = 1 then -((a + 1) / 2) else a / 2) := by unfold zagV; rw [if_pos (by omega)]
      rw [e]
      refine Ev.ifn (by simpa using h1) ?_
      simp only [tm2 (show 0 ≤ a by omega), half_up (show 0 ≤ a by omega) (by omega), half_dn (show 0 ≤ a by omega) (by omega)]
      by_cases h2 : a % 2 = 1
      · exact Ev.ifp h2 (Ev.some_ (by rw [if_pos h2]))
      · exact Ev.ifn h2 (Ev.some_ (by rw [if_neg h2]))
theorem zig_nonneg (a : Int) : 0 ≤ zigV a := by unfold zigV; split <;> (try split) <;> omega
theorem zag_zig (a : Int) (h0 : -1073741823 ≤ a) (h1 : a ≤ 1073741823) : zagV (zigV a) = a := by unfold zagV zigV; split <;> (try split) <;> (try split) <;> (try split) <;> omega
theorem zig_zag (a : Int) (h0 : 0 ≤ a) (h1 : a ≤ 2147483646) : zigV (zagV a) = a := by unfold zagV zigV; split <;> (try split) <;> (try split) <;> (try split) <;> omega
/-- bytes -/
def Bytes (b : List Int) : Prop := b.length ≤ 2000 ∧ ∀ x ∈ b, 0 ≤ x ∧ x ≤ 255
theorem rd_byte {b : List Int} (h : Bytes b) (i : Int) : 0 ≤ rd b i ∧ rd b i ≤ 255 := by
  unfold rd
  rw [List.getD_eq_getElem?_getD]
  cases e : b[i.toNat]? with
  | none => simp
  | some x => simpa using h.2 x (List.mem_of_getElem? e)
theorem xor_i64_range {a b : Int} (ha0 : 0 ≤ a) (ha : a < 4611686018427387904) (hb0 : 0 ≤ b) (hb : b < 4611686018427387904) : 0 ≤ Go.bits .xor .i64 a b := by
  obtain ⟨m, rfl⟩ := Int.eq_ofNat_of_zero_le ha0
  obtain ⟨n, rfl⟩ := Int.eq_ofNat_of_zero_le hb0
  have hx : m ^^^ n < 2 ^ 62 := Nat.xor_lt_two_pow (by omega) (by omega)
  have h1 : m % 2 ^ IntKind.i64.bits = m := Nat.mod_eq_of_lt (by simp [IntKind.bits]; omega)
  have h2 : n % 2 ^ IntKind.i64.bits = n := Nat.mod_eq_of_lt (by simp [IntKind.bits]; omega)
  simp only [Go.bits, BitVec.ofInt_natCast, BitVec.toNat_xor, BitVec.toNat_ofNat, h1, h2]
  rw [IntKind.wrap_i64]
  omega
theorem mix_range {u v k q : Int} (hu : 0 ≤ u ∧ u ≤ 255) (hv : 0 ≤ v ∧ v ≤ 255) (hk : 0 ≤ k ∧ k ≤ 1099511627776) (hq : 0 ≤ q ∧ q ≤ 1099511627776) :
    0 ≤ wrap64 ((wrap64 ((wrap64 ((wrap64 ((wrap64 u) * 131)) + (wrap64 ((wrap64 v) * 1117)))) + (wrap64 (k * 29)))) + (wrap64 ((wrap64 q) * 53))) ∧ wrap64 ((wrap64 ((wrap64 ((wrap64 ((wrap64 u) * 131)) + (wrap64 ((wrap64 v) * 1117)))) + (wrap64 (k * 29)))) + (wrap64 ((wrap64 q) * 53))) < 4611686018427387904 := by
  have e1 : wrap64 u = u := wrap_in (by omega) (by omega)
  have e2 : wrap64 v = v := wrap_in (by omega) (by omega)
  have e3 : wrap64 q = q := wrap_in (by omega) (by omega)
  rw [e1, e2, e3]
  clear e1 e2 e3
  have e4 : wrap64 (u * 131) = u * 131 := wrap_in (by omega) (by omega)
  have e5 : wrap64 (v * 1117) = v * 1117 := wrap_in (by omega) (by omega)
  have e6 : wrap64 (k * 29) = k * 29 := wrap_in (by omega) (by omega)
  have e7 : wrap64 (q * 53) = q * 53 := wrap_in (by omega) (by omega)
  rw [e4, e5, e6, e7]
  clear e4 e5 e6 e7
  have e8 : wrap64 (u * 131 + v * 1117) = u * 131 + v * 1117 := wrap_in (by omega) (by omega)
  rw [e8]
  clear e8
  have e9 : wrap64 (u * 131 + v * 1117 + k * 29) = u * 131 + v * 1117 + k * 29 := wrap_in (by omega) (by omega)
  rw [e9]
  clear e9
  have e10 : wrap64 (u * 131 + v * 1117 + k * 29 + q * 53) = u * 131 + v * 1117 + k * 29 + q * 53 := wrap_in (by omega) (by omega)
  rw [e10]
  clear e10
  omega
/-- A number is picked: it is below n, and the place is one on. -/
theorem pick_ev (b : List Int) (hb : Bytes b) (p n : Int) (hp0 : 0 ≤ p) (hp : p < 1099511627776) : ∃ v, Ev (fun k => spec_l1Rd_pick.f k b p n) (v, p + 1) ∧ 0 ≤ v ∧ (1 ≤ n → v < n) := by
  have hw : wrap64 (p + 1) = p + 1 := wrap_in (by omega) (by omega)
  have hw2 : wrap64 (p + 1 - 1) = p := (wrap_in (by omega) (by omega)).trans (by omega)
  by_cases hn : n < 1
  · refine ⟨0, ?_, by omega, by omega⟩
    unfold spec_l1Rd_pick.f
    refine Ev.ifp hn ?_
    refine Ev.step (fun k => by rw [spec_l1Rd_pick.j0]) ?_
    rw [hw]
    exact Ev.ifp rfl (Ev.now _)
  · by_cases hz : b.length = 0
    · refine ⟨0, ?_, by omega, by omega⟩
      unfold spec_l1Rd_pick.f
      refine Ev.ifn hn ?_
      refine Ev.step (fun k => by rw [spec_l1Rd_pick.j0]) ?_
      rw [hw]
      exact Ev.ifp (by rw [hz]; rfl) (Ev.now _)
    · have core : ∀ X : Int, 0 ≤ X → 0 ≤ Int.tmod X n ∧ Int.tmod X n < n := by
        intro X hX
        rw [Int.tmod_eq_emod_of_nonneg hX]
        exact ⟨Int.emod_nonneg _ (by omega), Int.emod_lt_of_pos _ (by omega)⟩
      have hn0 : ¬ n = 0 := by omega
      unfold spec_l1Rd_pick.f
      by_cases hlt : p < (b.length : Int)
      · have hr := rd_byte hb p
        have hwr : wrap64 (rd b p) = rd b p := wrap_in (by omega) (by omega)
        refine ⟨Int.tmod (rd b p) n, ?_, (core _ hr.1).1, fun _ => (core _ hr.1).2⟩
        refine Ev.ifn hn ?_
        refine Ev.step (fun k => by rw [spec_l1Rd_pick.j0]) ?_
        refine Ev.ifn (by simpa using hz) ?_
        rw [hw, hw2]
        refine Ev.ifp hlt (Ev.ifp hp0 (Ev.ifn hn0 ?_))
        rw [hwr]
        exact Ev.now _
      · have hlen : (b.length : Int) ≤ 2000 := by have := hb.1; omega
        have hi1 : 0 ≤ Int.tmod p (b.length : Int) ∧ Int.tmod p (b.length : Int) < (b.length : Int) := by
          rw [Int.tmod_eq_emod_of_nonneg hp0]
          exact ⟨Int.emod_nonneg _ (by omega), Int.emod_lt_of_pos _ (by omega)⟩
        have hj : wrap64 ((wrap64 (p * 7)) + 3) = p * 7 + 3 := by
          have : wrap64 (p * 7) = p * 7 := wrap_in (by omega) (by omega)
          rw [this]; exact wrap_in (by omega) (by omega)
        have hi2 : 0 ≤ Int.tmod (p * 7 + 3) (b.length : Int) ∧ Int.tmod (p * 7 + 3) (b.length : Int) < (b.length : Int) := by
          rw [Int.tmod_eq_emod_of_nonneg (by omega)]
          exact ⟨Int.emod_nonneg _ (by omega), Int.emod_lt_of_pos _ (by omega)⟩
        have hq : 0 ≤ Int.tdiv p (b.length : Int) ∧ Int.tdiv p (b.length : Int) ≤ 1099511627776 := by
          rw [Int.tdiv_eq_ediv_of_nonneg hp0]
          have h1 := Int.ediv_nonneg hp0 (show 0 ≤ (b.length : Int) by omega)
          have h2 := Int.ediv_le_self (b.length : Int) hp0
          omega
        have hA := mix_range (rd_byte hb (Int.tmod p (b.length : Int))) (rd_byte hb (Int.tmod (p * 7 + 3) (b.length : Int))) (k := p) ⟨hp0, by omega⟩ hq
        generalize hX : wrap64 ((wrap64 ((wrap64 ((wrap64 ((wrap64 (rd b (Int.tmod p (b.length : Int)))) * 131)) + (wrap64 ((wrap64 (rd b (Int.tmod (p * 7 + 3) (b.length : Int)))) * 1117)))) + (wrap64 (p * 29)))) + (wrap64 ((wrap64 (Int.tdiv p (b.length : Int))) * 53))) = X at hA
        have hY : 0 ≤ wrap64 (Int.tdiv X 64) ∧ wrap64 (Int.tdiv X 64) < 4611686018427387904 := by
          rw [Int.tdiv_eq_ediv_of_nonneg hA.1, wrap_in (by omega) (by omega)]; omega
        have hxor := xor_i64_range hA.1 hA.2 hY.1 hY.2
        refine ⟨Int.tmod (Go.bits .xor .i64 X (wrap64 (Int.tdiv X 64))) n, ?_, (core _ hxor).1, fun _ => (core _ hxor).2⟩
        refine Ev.ifn hn ?_
        refine Ev.step (fun k => by rw [spec_l1Rd_pick.j0]) ?_
        refine Ev.ifn (by simpa using hz) ?_
        rw [hw, hw2, hj]
        refine Ev.ifn hlt (Ev.ifn (by omega) (Ev.ifp hi1.1 (Ev.ifp hi1.2 (Ev.ifp hi2.1 (Ev.ifp hi2.2 (Ev.ifn hn0 ?_))))))
        rw [hX]
        exact Ev.now _
theorem open_eq (l : List Int) (hl : l.length ≤ maxLen) (h : ∀ x ∈ l, (Lit.int .u8 x).wf = true) : ∃ b, spec_l1Open.f l = some (b, 0) ∧ Bytes b := by
  have hw : ∀ x ∈ l, 0 ≤ x ∧ x ≤ 255 := fun x hx => wf_u8 (h x hx)
  unfold spec_l1Open.f
  by_cases c : (l.length : Int) > 2000
  · rw [if_pos c, if_pos (by omega)]
    exact ⟨_, rfl, by rw [List.length_take]; omega, fun x hx => hw x (List.mem_of_mem_take hx)⟩
  · rw [if_neg c]
    exact ⟨_, rfl, by omega, hw⟩
theorem one_ev (b : List Int) (hb : Bytes b) (p : Int) (hp0 : 0 ≤ p) (hp : p < 1099511627776) (l : List Int) (hl : 0 < l.length) : ∃ v, Ev (fun k => spec_l1Rd_one.f k b p l) (v, p + 1) ∧ v ∈ l := by
  obtain ⟨i, he, h0, h1⟩ := pick_ev b hb p (l.length : Int) hp0 hp
  have h1' := h1 (by omega)
  refine ⟨rd l i, ?_, ?_⟩
  · unfold spec_l1Rd_one.f
    refine Ev.bind he ?_
    exact Ev.ifp h0 (Ev.ifp h1' (Ev.now _))
  · unfold rd
    rw [getD_of (show i.toNat < l.length by omega)]
    exact List.getElem_mem _
theorem DrawZig_ev (l : List Int) (hl : l.length ≤ maxLen) (h : ∀ x ∈ l, (Lit.int .u8 x).wf = true) : ∃ v, Ev (fun k => spec_DrawZig.f k l) v := by
  obtain ⟨b, hb, hB⟩ := open_eq l hl h
  obtain ⟨v1, e1, _, _⟩ := pick_ev b hB 0 256 (by omega) (by omega)
  obtain ⟨v2, e2, _⟩ := one_ev b hB (0 + 1) (by omega) (by omega) [wrap64 (v1 - 128), 1073741823, wrap64 (-1073741823), wrap64 (1073741823 + 1), wrap64 ((wrap64 (-1073741823)) - 1), 0, (-1)] (by simp)
  refine ⟨v2, ?_⟩
  unfold spec_DrawZig.f
  rw [hb]
  simp only [Option.bind_some, spec_l1Zig.f]
  exact Ev.bind e1 (Ev.bind e2 (Ev.now _))
theorem DrawZag_ev (l : List Int) (hl : l.length ≤ maxLen) (h : ∀ x ∈ l, (Lit.int .u8 x).wf = true) : ∃ v, Ev (fun k => spec_DrawZag.f k l) v := by
  obtain ⟨b, hb, hB⟩ := open_eq l hl h
  obtain ⟨v1, e1, _, _⟩ := pick_ev b hB 0 256 (by omega) (by omega)
  obtain ⟨v2, e2, _⟩ := one_ev b hB (0 + 1) (by omega) (by omega) [v1, wrap64 (2 * 1073741823), wrap64 ((wrap64 (2 * 1073741823)) + 1), (-1), wrap64 ((wrap64 (2 * 1073741823)) - 1)] (by simp)
  refine ⟨v2, ?_⟩
  unfold spec_DrawZag.f
  rw [hb]
  simp only [Option.bind_some, spec_l1Zig.f]
  exact Ev.bind e1 (Ev.bind e2 (Ev.now _))

theorem FnZig_j1 (l1 : List Int) (hl1 : l1.length ≤ maxLen) (h1 : ∀ x ∈ l1, (Lit.int .u8 x).wf = true) : Ev (fun k => laws_FnZig.j1 k l1 false) true := by
  obtain ⟨m, hm⟩ := DrawZag_ev l1 hl1 h1
  refine Ev.step (fun k => by rw [laws_FnZig.j1]) ?_
  refine Ev.ifn (by decide) ?_
  refine Ev.bind hm ?_
  refine Ev.bind (impl_Zag_ev m) ?_
  refine Ev.bind (Ev.const (spec_Zag_eq m)) ?_
  refine Ev.ifp rfl ?_
  by_cases a : m < 0
  · exact Ev.ifp a (Ev.now _)
  · refine Ev.ifn a ?_
    by_cases b : m > 2147483646
    · exact Ev.ifp b (Ev.now _)
    · refine Ev.ifn b ?_
      refine Ev.bind (impl_Zig_ev (zagV m)) ?_
      refine Ev.some_ ?_
      rw [zig_zag m (by omega) (by omega)]
      simp
theorem FnZig : laws_FnZig.Pure := by
  intro l0 l1 hl0 _ h0 hl1 _ h1
  apply Ev.rounds
  unfold laws_FnZig.f
  by_cases c0 : (l0.length : Int) > 1048576
  · refine Ev.ifp c0 ?_
    refine Ev.step (fun k => by rw [laws_FnZig.j0]) ?_
    exact Ev.ifp rfl (Ev.now _)
  · refine Ev.ifn c0 ?_
    refine Ev.step (fun k => by rw [laws_FnZig.j0]) ?_
    by_cases c1 : (l1.length : Int) > 1048576
    · exact Ev.ifp (decide_eq_true c1) (Ev.now _)
    · refine Ev.ifn (by simpa using c1) ?_
      obtain ⟨n, hn⟩ := DrawZig_ev l0 hl0 h0
      refine Ev.bind hn ?_
      refine Ev.bind (impl_Zig_ev n) ?_
      refine Ev.bind (Ev.const (spec_Zig_eq n)) ?_
      refine Ev.ifp rfl ?_
      have hz := zig_nonneg n
      refine Ev.ifn (by omega) ?_
      by_cases a : n ≤ 1073741823
      · refine Ev.ifp a ?_
        by_cases b : n ≥ -1073741823
        · refine Ev.ifp b ?_
          refine Ev.bind (impl_Zag_ev (zigV n)) ?_
          rw [zag_zig n b a]
          simp only [bne_self_eq_false]
          exact FnZig_j1 l1 hl1 h1
        · exact Ev.ifn b (FnZig_j1 l1 hl1 h1)
      · exact Ev.ifn a (FnZig_j1 l1 hl1 h1)

end Go.Proofs.Ytidapbdlomjgcaa.Pure
