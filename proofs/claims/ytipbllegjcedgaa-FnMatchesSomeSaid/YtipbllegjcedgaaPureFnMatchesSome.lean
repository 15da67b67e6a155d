/- What has a word begins with each beginning of it, and a name that no label has is as the empty word, for matches and labels that are drawn; no condition. -/
import Derived.Test.YtipbllegjcedgaaQFnMatchesSomex5
import Derived.Test.YtipbllegjcedgaaWOwn
set_option linter.unusedVariables false
set_option linter.unusedSimpArgs false
namespace Go.Proofs.Ytipbllegjcedgaa.Pure
open Go.RowKit Go.Proofs.Ytipbllegjcedgaa.QFnMatchesSome Go.Proofs.YtipbllegjcedgaaW.PrintWords Go.Proofs.YtipbllegjcedgaaW.PrintLast Go.Proofs.YtipbllegjcedgaaW.Own

theorem nat_lt {i n : Nat} (h : i < n) : ((i : Int) < (n : Int)) = True := by simp [h]
theorem nat_nlt {i n : Nat} (h : n ≤ i) : ((i : Int) < (n : Int)) = False := by simp [h]
theorem nat_pos (i : Nat) : (0 ≤ (i : Int)) = True := by simp
theorem wrap_succ {i : Nat} (h : i < 9223372036854775807) : wrap64 ((i : Int) + 1) = ((i + 1 : Nat) : Int) := by unfold wrap64; omega
theorem wrap_pred {i : Nat} (h : i < 9223372036854775807) : wrap64 ((i : Int) - 1) = (i : Int) - 1 := by unfold wrap64; omega
theorem wrap_sub {a : Int} {n : Nat} (h0 : 0 ≤ a) (h1 : a ≤ 9223372036854775807) (hn : n ≤ maxLen) : wrap64 (a - (n : Int)) = a - (n : Int) := by unfold wrap64; unfold maxLen at hn; omega
theorem rd_nat (l : List Int) (i : Nat) : rd l (i : Int) = l.getD i 0 := rfl
theorem getD_of {α : Type} {l : List α} {i : Nat} (h : i < l.length) (d : α) : l.getD i d = l[i] := by simp [List.getD, List.getElem?_eq_getElem h]
theorem drop_at {α : Type} {l : List α} {i : Nat} (h : i < l.length) : l.drop i = l[i] :: l.drop (i + 1) := List.drop_eq_getElem_cons h
theorem bt_nat (s : ByteArray) (i : Nat) (h : i < s.size) : bt s (i : Int) = ((s[i]'h).toNat : Int) := by
  unfold bt
  have : (i : Int).toNat = i := by omega
  simp [h]
/-- From an index on: at the end, and one round. -/
theorem from_index {P : Nat → Prop} {n : Nat} (h0 : P n) (h1 : ∀ i, i < n → P (i + 1) → P i) : ∀ i, i ≤ n → P i := by
  have key : ∀ d i, i + d = n → P i := by
    intro d
    induction d with
    | zero => intro i h; obtain rfl : i = n := by omega
              exact h0
    | succ d ih => intro i h; exact h1 i (by omega) (ih (i + 1) (by omega))
  intro i hi
  exact key (n - i) i (by omega)
/-- A row that is filled from the front. -/
def fillTo {α : Type} (xs : List α) (z : α) (i : Nat) : List α := xs.take i ++ List.replicate (xs.length - i) z
theorem fillTo_length {α : Type} (xs : List α) (z : α) (i : Nat) (h : i ≤ xs.length) : (fillTo xs z i).length = xs.length := by
  unfold fillTo; rw [List.length_append, List.length_take, List.length_replicate]; omega
theorem fillTo_zero {α : Type} (xs : List α) (z : α) : fillTo xs z 0 = List.replicate xs.length z := by simp [fillTo]
theorem fillTo_all {α : Type} (xs : List α) (z : α) : fillTo xs z xs.length = xs := by simp [fillTo]
theorem fillTo_set {α : Type} (xs : List α) (z : α) (i : Nat) (h : i < xs.length) : (fillTo xs z i).set i xs[i] = fillTo xs z (i + 1) := by
  unfold fillTo
  have hl : (xs.take i).length = i := by rw [List.length_take]; omega
  have e : xs.length - i = (xs.length - (i + 1)) + 1 := by omega
  rw [e, List.replicate_succ, List.set_append_right _ _ (by omega), hl, Nat.sub_self, List.set_cons_zero, List.take_succ_eq_append_getElem h, List.append_assoc]
  rfl
theorem spec_l1In_eq (a b c : Int) : spec_l1In.f a b c = some (decide (b ≤ a ∧ a ≤ c)) := by
  unfold spec_l1In.f
  by_cases h : a ≥ b
  · rw [if_pos h]
    have h' : b ≤ a := h
    simp [h']
  · rw [if_neg h]
    have h' : ¬ b ≤ a := h
    simp [h']
theorem impl_MatchesOk_eq (l : List Mch) (h : bdM l = true) : impl_MatchesOk.f l = some (mchsB l) := by unfold impl_MatchesOk.f; rw [if_pos h]
theorem spec_MatchesOk_ev (l : List Mch) (hb : bdM l = true) : Ev (fun k => spec_MatchesOk.f k l) (mchsB l) := by
  have hn := bdM_len hb
  have key : ∀ i, i ≤ l.length → Ev (fun k => spec_MatchesOk.l0 k l (i : Int)) ((l.drop i).all mchB && decide (l.length ≤ 4)) := by
    refine from_index ?_ ?_
    · refine Ev.step (fun k => by rw [spec_MatchesOk.l0]) ?_
      refine Ev.ifn (by omega) (Ev.some_ ?_)
      rw [List.drop_length, List.all_nil, Bool.true_and]
      exact decide_eq_decide.mpr (by omega)
    · intro i hi ih
      refine Ev.step (fun k => by rw [spec_MatchesOk.l0]) ?_
      refine Ev.ifp (by omega) (Ev.ifp (by omega) ?_)
      have e : rd_T48 l (i : Int) = l[i] := by unfold rd_T48; rw [Int.toNat_natCast, getD_of hi]
      obtain ⟨h1, h2⟩ := bdM_at hb (List.getElem_mem hi)
      rw [e, wrap_succ (show i < 9223372036854775807 by omega), drop_at hi, List.all_cons]
      have hN : spec_l3Name.f l[i].f1 = some (lettersB l[i].f1 6 && (l[i].f1.toList != [])) := by unfold spec_l3Name.f; rw [if_pos h1]
      have hW : spec_l3Letters.f l[i].f2 8 = some (lettersB l[i].f2 8) := by unfold spec_l3Letters.f; rw [if_pos h2]
      have hm : mchB l[i] = ((decide (1 ≤ l[i].f0) && decide (l[i].f0 ≤ 4)) && (lettersB l[i].f1 6 && (l[i].f1.toList != [])) && lettersB l[i].f2 8) := rfl
      rw [hm]
      refine Ev.bind (Ev.const (spec_l1In_eq _ _ _)) ?_
      by_cases c1 : 1 ≤ l[i].f0 ∧ l[i].f0 ≤ 4
      · rw [decide_eq_true c1, decide_eq_true c1.1, decide_eq_true c1.2]
        refine Ev.ifp rfl (Ev.bind (Ev.const hN) ?_)
        cases c2 : (lettersB l[i].f1 6 && (l[i].f1.toList != []))
        · exact Ev.ifn (by decide) (Ev.now _)
        · refine Ev.ifp rfl (Ev.bind (Ev.const hW) ?_)
          cases c3 : lettersB l[i].f2 8
          · exact Ev.ifn (by decide) (Ev.now _)
          · exact Ev.ifp rfl ih
      · rw [decide_eq_false c1]
        have c0 : (decide (1 ≤ l[i].f0) && decide (l[i].f0 ≤ 4)) = false := by
          by_cases h1 : 1 ≤ l[i].f0
          · rw [decide_eq_true h1, decide_eq_false (by omega)]; rfl
          · rw [decide_eq_false h1]; rfl
        rw [c0]
        exact Ev.ifn (by decide) (Ev.now _)
  unfold spec_MatchesOk.f
  have := key 0 (Nat.zero_le _)
  rw [List.drop_zero, Bool.and_comm] at this
  exact this
theorem spec_LabelsOk_eq (l : List Lbl) (h : bdL l = true) : spec_LabelsOk.f l = some (labelsB l) := by unfold spec_LabelsOk.f; rw [if_pos h]
theorem impl_LabelsOk_eq (l : List Lbl) (h : bdL l = true) : impl_LabelsOk.f l = some (labelsB l) := by unfold impl_LabelsOk.f; rw [if_pos h]
theorem rdL (l : List Lbl) {i : Nat} (h : i < l.length) : rd_T52 l (i : Int) = l[i] := by unfold rd_T52; rw [Int.toNat_natCast, getD_of h]
theorem rdM (l : List Mch) {i : Nat} (h : i < l.length) : rd_T48 l (i : Int) = l[i] := by unfold rd_T48; rw [Int.toNat_natCast, getD_of h]
theorem spec_l3Word_ev (l : List Lbl) (n : ByteArray) (hn : l.length < 9223372036854775807) : Ev (fun k => spec_l3Word.f k l n) (wordL l n) := by
  have key : ∀ i, i ≤ l.length → Ev (fun k => spec_l3Word.l0 k l n (i : Int)) (wordL (l.drop i) n) := by
    refine from_index ?_ ?_
    · refine Ev.step (fun k => by rw [spec_l3Word.l0]) ?_
      refine Ev.ifn (by omega) (Ev.some_ ?_)
      rw [List.drop_length]; rfl
    · intro i hi ih
      refine Ev.step (fun k => by rw [spec_l3Word.l0]) ?_
      refine Ev.ifp (by omega) (Ev.ifp (by omega) ?_)
      rw [rdL l hi, wrap_succ (show i < 9223372036854775807 by omega), List.drop_eq_getElem_cons hi, wordL]
      by_cases c : l[i].f0.toList = n.toList
      · rw [if_pos (beq_iff_eq.mpr c)]
        exact Ev.ifp c (Ev.now _)
      · rw [if_neg (by rw [beq_iff_eq]; exact c)]
        exact Ev.ifn c ih
  unfold spec_l3Word.f
  have := key 0 (Nat.zero_le _)
  rw [List.drop_zero] at this
  exact this
theorem spec_l3Let_ev (m : Mch) (l : List Lbl) (hn : l.length < 9223372036854775807) : Ev (fun k => spec_l3Let.f k m.f0 m.f1 m.f2 l) (letB m.f0 m.f2 (wordL l m.f1)) := by
  unfold spec_l3Let.f
  refine Ev.bind (spec_l3Word_ev l m.f1 hn) ?_
  have fin : ∀ (w p : ByteArray) (b : Bool), b = preB w p → Ev (fun k => spec_l3Let.j0 k w b m.f0 m.f1 p) (letB m.f0 p w) := by
    intro w p b hb
    refine Ev.step (fun k => by rw [spec_l3Let.j0]) ?_
    by_cases c1 : m.f0 = 1
    · rw [show letB m.f0 p w = (w.toList == p.toList) by unfold letB; rw [if_pos c1]]
      exact Ev.ifp c1 (Ev.now _)
    refine Ev.ifn c1 ?_
    by_cases c2 : m.f0 = 2
    · rw [show letB m.f0 p w = (!(w.toList == p.toList)) by unfold letB; rw [if_neg c1, if_pos c2]]
      exact Ev.ifp c2 (Ev.some_ rfl)
    refine Ev.ifn c2 ?_
    by_cases c3 : m.f0 = 3
    · rw [show letB m.f0 p w = preB w p by unfold letB; rw [if_neg c1, if_neg c2, if_pos c3]]
      exact Ev.ifp c3 (Ev.some_ hb)
    rw [show letB m.f0 p w = !preB w p by unfold letB; rw [if_neg c1, if_neg c2, if_neg c3]]
    exact Ev.ifn c3 (Ev.some_ (by rw [hb]))
  by_cases c : (m.f2.size : Int) ≤ ((wordL l m.f1).size : Int)
  · refine Ev.ifp c (Ev.ifp (by omega) (Ev.ifp c (fin _ _ _ ?_)))
    unfold preB
    rw [decide_eq_true (show m.f2.size ≤ (wordL l m.f1).size by omega), Bool.true_and, Int.toNat_natCast]
  · refine Ev.ifn c (fin _ _ _ ?_)
    unfold preB
    rw [decide_eq_false (show ¬ m.f2.size ≤ (wordL l m.f1).size by omega), Bool.false_and]
theorem spec_l3Lets_ev (l0 : List Mch) (l1 : List Lbl) (h0 : l0.length < 9223372036854775807) (hn : l1.length < 9223372036854775807) : Ev (fun k => spec_l3Lets.f k l0 l1) (letsB l0 l1) := by
  have key : ∀ i, i ≤ l0.length → Ev (fun k => spec_l3Lets.l0 k l0 l1 (i : Int)) (letsB (l0.drop i) l1) := by
    refine from_index ?_ ?_
    · refine Ev.step (fun k => by rw [spec_l3Lets.l0]) ?_
      refine Ev.ifn (by omega) (Ev.some_ ?_)
      rw [List.drop_length]; rfl
    · intro i hi ih
      refine Ev.step (fun k => by rw [spec_l3Lets.l0]) ?_
      refine Ev.ifp (by omega) (Ev.ifp (by omega) ?_)
      rw [rdM l0 hi, wrap_succ (show i < 9223372036854775807 by omega), List.drop_eq_getElem_cons hi]
      refine Ev.bind (spec_l3Let_ev l0[i] l1 hn) ?_
      show Ev _ (letB l0[i].f0 l0[i].f2 (wordL l1 l0[i].f1) && letsB (l0.drop (i + 1)) l1)
      cases letB l0[i].f0 l0[i].f2 (wordL l1 l0[i].f1)
      · exact Ev.ifn (by decide) (Ev.now _)
      · exact Ev.ifp rfl ih
  unfold spec_l3Lets.f
  have := key 0 (Nat.zero_le _)
  rw [List.drop_zero] at this
  exact this
theorem kinds_of {l : List Mch} (h : mchsB l = true) : kindsB l = true := by
  unfold mchsB at h
  have h2 := (Bool.and_eq_true _ _ ▸ h).2
  refine List.all_eq_true.2 fun x hx => ?_
  have h3 := List.all_eq_true.1 h2 x hx
  unfold mchB at h3
  rw [Bool.and_eq_true, Bool.and_eq_true] at h3
  exact h3.1.1
theorem impl_let_eq (l0 : List Mch) (l1 : List Lbl) (h0 : l0.length < 9223372036854775807) (hn : l1.length < 9223372036854775807) (hk : kindsB l0 = true) : impl_let.f l0 l1 = some (letsB l0 l1) := by
  unfold impl_let.f
  rw [if_pos ⟨h0, hn, hk⟩]
def matchesLetV (l0 : List Mch) (l1 : List Lbl) : Bool := mchsB l0 && (labelsB l1 && letsB l0 l1)
theorem spec_MatchesLet_ev (l0 : List Mch) (l1 : List Lbl) (h0 : bdM l0 = true) (h1 : bdL l1 = true) : Ev (fun k => spec_MatchesLet.f k l0 l1) (matchesLetV l0 l1) := by
  unfold spec_MatchesLet.f matchesLetV
  refine Ev.bind (spec_MatchesOk_ev l0 h0) ?_
  cases mchsB l0
  · exact Ev.ifn (by decide) (Ev.now _)
  refine Ev.ifp rfl (Ev.bind (Ev.const (spec_LabelsOk_eq l1 h1)) ?_)
  cases labelsB l1
  · exact Ev.ifn (by decide) (Ev.now _)
  exact Ev.ifp rfl (Ev.bind (spec_l3Lets_ev l0 l1 (bdM_len h0) (bdL_len h1)) (Ev.now _))
theorem impl_MatchesLet_eq (l0 : List Mch) (l1 : List Lbl) (h0 : bdM l0 = true) (h1 : bdL l1 = true) : impl_MatchesLet.f l0 l1 = some (matchesLetV l0 l1) := by
  unfold impl_MatchesLet.f matchesLetV
  rw [impl_MatchesOk_eq l0 h0]
  cases c : mchsB l0
  · rfl
  rw [Option.bind_some, if_pos rfl, impl_LabelsOk_eq l1 h1]
  cases labelsB l1
  · rfl
  rw [Option.bind_some, if_pos rfl, impl_let_eq l0 l1 (bdM_len h0) (bdL_len h1) (kinds_of c)]
  rfl
/-- bytes -/
def Bytes (b : List Int) : Prop := b.length ≤ 2000 ∧ ∀ x ∈ b, 0 ≤ x ∧ x ≤ 255
theorem rd_byte {b : List Int} (h : Bytes b) (i : Int) : 0 ≤ rd b i ∧ rd b i ≤ 255 := by
  unfold rd
  rw [List.getD_eq_getElem?_getD]
  cases e : b[i.toNat]? with
  | none => simp
  | some x => simpa using h.2 x (List.mem_of_getElem? e)
theorem xor_i64_range {a b : Int} (ha0 : 0 ≤ a) (ha : a < 4611686018427387904) (hb0 : 0 ≤ b) (hb : b < 4611686018427387904) : 0 ≤ Go.bits .xor .i64 a b := by
  obtain ⟨m, rfl⟩ := Int.eq_ofNat_of_zero_le ha0
  obtain ⟨n, rfl⟩ := Int.eq_ofNat_of_zero_le hb0
  have hx : m ^^^ n < 2 ^ 62 := Nat.xor_lt_two_pow (by omega) (by omega)
  have h1 : m % 2 ^ IntKind.i64.bits = m := Nat.mod_eq_of_lt (by simp [IntKind.bits]; omega)
  have h2 : n % 2 ^ IntKind.i64.bits = n := Nat.mod_eq_of_lt (by simp [IntKind.bits]; omega)
  simp only [Go.bits, BitVec.ofInt_natCast, BitVec.toNat_xor, BitVec.toNat_ofNat, h1, h2]
  rw [IntKind.wrap_i64]
  omega
theorem mix_range {u v k q : Int} (hu : 0 ≤ u ∧ u ≤ 255) (hv : 0 ≤ v ∧ v ≤ 255) (hk : 0 ≤ k ∧ k ≤ 1099511627776) (hq : 0 ≤ q ∧ q ≤ 1099511627776) :
    0 ≤ wrap64 ((wrap64 ((wrap64 ((wrap64 ((wrap64 u) * 131)) + (wrap64 ((wrap64 v) * 1117)))) + (wrap64 (k * 29)))) + (wrap64 ((wrap64 q) * 53))) ∧ wrap64 ((wrap64 ((wrap64 ((wrap64 ((wrap64 u) * 131)) + (wrap64 ((wrap64 v) * 1117)))) + (wrap64 (k * 29)))) + (wrap64 ((wrap64 q) * 53))) < 4611686018427387904 := by
  have e1 : wrap64 u = u := wrap_in (by omega) (by omega)
  have e2 : wrap64 v = v := wrap_in (by omega) (by omega)
  have e3 : wrap64 q = q := wrap_in (by omega) (by omega)
  rw [e1, e2, e3]
  clear e1 e2 e3
  have e4 : wrap64 (u * 131) = u * 131 := wrap_in (by omega) (by omega)
  have e5 : wrap64 (v * 1117) = v * 1117 := wrap_in (by omega) (by omega)
  have e6 : wrap64 (k * 29) = k * 29 := wrap_in (by omega) (by omega)
  have e7 : wrap64 (q * 53) = q * 53 := wrap_in (by omega) (by omega)
  rw [e4, e5, e6, e7]
  clear e4 e5 e6 e7
  have e8 : wrap64 (u * 131 + v * 1117) = u * 131 + v * 1117 := wrap_in (by omega) (by omega)
  rw [e8]
  clear e8
  have e9 : wrap64 (u * 131 + v * 1117 + k * 29) = u * 131 + v * 1117 + k * 29 := wrap_in (by omega) (by omega)
  rw [e9]
  clear e9
  have e10 : wrap64 (u * 131 + v * 1117 + k * 29 + q * 53) = u * 131 + v * 1117 + k * 29 + q * 53 := wrap_in (by omega) (by omega)
  rw [e10]
  clear e10
  omega
/-- A number is picked: it is below n, and the place is one on. -/
theorem pick_ev (b : List Int) (hb : Bytes b) (p n : Int) (hp0 : 0 ≤ p) (hp : p < 1099511627776) : ∃ v, Ev (fun k => spec_l1Rd_pick.f k b p n) (v, p + 1) ∧ 0 ≤ v ∧ (1 ≤ n → v < n) := by
  have hw : wrap64 (p + 1) = p + 1 := wrap_in (by omega) (by omega)
  have hw2 : wrap64 (p + 1 - 1) = p := (wrap_in (by omega) (by omega)).trans (by omega)
  by_cases hn : n < 1
  · refine ⟨0, ?_, by omega, by omega⟩
    unfold spec_l1Rd_pick.f
    refine Ev.ifp hn ?_
    refine Ev.step (fun k => by rw [spec_l1Rd_pick.j0]) ?_
    rw [hw]
    exact Ev.ifp rfl (Ev.now _)
  · by_cases hz : b.length = 0
    · refine ⟨0, ?_, by omega, by omega⟩
      unfold spec_l1Rd_pick.f
      refine Ev.ifn hn ?_
      refine Ev.step (fun k => by rw [spec_l1Rd_pick.j0]) ?_
      rw [hw]
      exact Ev.ifp (by rw [hz]; rfl) (Ev.now _)
    · have core : ∀ X : Int, 0 ≤ X → 0 ≤ Int.tmod X n ∧ Int.tmod X n < n := by
        intro X hX
        rw [Int.tmod_eq_emod_of_nonneg hX]
        exact ⟨Int.emod_nonneg _ (by omega), Int.emod_lt_of_pos _ (by omega)⟩
      have hn0 : ¬ n = 0 := by omega
      unfold spec_l1Rd_pick.f
      by_cases hlt : p < (b.length : Int)
      · have hr := rd_byte hb p
        have hwr : wrap64 (rd b p) = rd b p := wrap_in (by omega) (by omega)
        refine ⟨Int.tmod (rd b p) n, ?_, (core _ hr.1).1, fun _ => (core _ hr.1).2⟩
        refine Ev.ifn hn ?_
        refine Ev.step (fun k => by rw [spec_l1Rd_pick.j0]) ?_
        refine Ev.ifn (by simpa using hz) ?_
        rw [hw, hw2]
        refine Ev.ifp hlt (Ev.ifp hp0 (Ev.ifn hn0 ?_))
        rw [hwr]
        exact Ev.now _
      · have hlen : (b.length : Int) ≤ 2000 := by have := hb.1; omega
        have hi1 : 0 ≤ Int.tmod p (b.length : Int) ∧ Int.tmod p (b.length : Int) < (b.length : Int) := by
          rw [Int.tmod_eq_emod_of_nonneg hp0]
          exact ⟨Int.emod_nonneg _ (by omega), Int.emod_lt_of_pos _ (by omega)⟩
        have hj : wrap64 ((wrap64 (p * 7)) + 3) = p * 7 + 3 := by
          have : wrap64 (p * 7) = p * 7 := wrap_in (by omega) (by omega)
          rw [this]; exact wrap_in (by omega) (by omega)
        have hi2 : 0 ≤ Int.tmod (p * 7 + 3) (b.length : Int) ∧ Int.tmod (p * 7 + 3) (b.length : Int) < (b.length : Int) := by
          rw [Int.tmod_eq_emod_of_nonneg (by omega)]
          exact ⟨Int.emod_nonneg _ (by omega), Int.emod_lt_of_pos _ (by omega)⟩
        have hq : 0 ≤ Int.tdiv p (b.length : Int) ∧ Int.tdiv p (b.length : Int) ≤ 1099511627776 := by
          rw [Int.tdiv_eq_ediv_of_nonneg hp0]
          have h1 := Int.ediv_nonneg hp0 (show 0 ≤ (b.length : Int) by omega)
          have h2 := Int.ediv_le_self (b.length : Int) hp0
          omega
        have hA := mix_range (rd_byte hb (Int.tmod p (b.length : Int))) (rd_byte hb (Int.tmod (p * 7 + 3) (b.length : Int))) (k := p) ⟨hp0, by omega⟩ hq
        generalize hX : wrap64 ((wrap64 ((wrap64 ((wrap64 ((wrap64 (rd b (Int.tmod p (b.length : Int)))) * 131)) + (wrap64 ((wrap64 (rd b (Int.tmod (p * 7 + 3) (b.length : Int)))) * 1117)))) + (wrap64 (p * 29)))) + (wrap64 ((wrap64 (Int.tdiv p (b.length : Int))) * 53))) = X at hA
        have hY : 0 ≤ wrap64 (Int.tdiv X 64) ∧ wrap64 (Int.tdiv X 64) < 4611686018427387904 := by
          rw [Int.tdiv_eq_ediv_of_nonneg hA.1, wrap_in (by omega) (by omega)]; omega
        have hxor := xor_i64_range hA.1 hA.2 hY.1 hY.2
        refine ⟨Int.tmod (Go.bits .xor .i64 X (wrap64 (Int.tdiv X 64))) n, ?_, (core _ hxor).1, fun _ => (core _ hxor).2⟩
        refine Ev.ifn hn ?_
        refine Ev.step (fun k => by rw [spec_l1Rd_pick.j0]) ?_
        refine Ev.ifn (by simpa using hz) ?_
        rw [hw, hw2, hj]
        refine Ev.ifn hlt (Ev.ifn (by omega) (Ev.ifp hi1.1 (Ev.ifp hi1.2 (Ev.ifp hi2.1 (Ev.ifp hi2.2 (Ev.ifn hn0 ?_))))))
        rw [hX]
        exact Ev.now _
theorem open_eq (l : List Int) (hl : l.length ≤ maxLen) (h : ∀ x ∈ l, (Lit.int .u8 x).wf = true) : ∃ b, spec_l1Open.f l = some (b, 0) ∧ Bytes b := by
  have hw : ∀ x ∈ l, 0 ≤ x ∧ x ≤ 255 := fun x hx => wf_u8 (h x hx)
  unfold spec_l1Open.f
  by_cases c : (l.length : Int) > 2000
  · rw [if_pos c, if_pos (by omega)]
    exact ⟨_, rfl, by rw [List.length_take]; omega, fun x hx => hw x (List.mem_of_mem_take hx)⟩
  · rw [if_neg c]
    exact ⟨_, rfl, by omega, hw⟩
theorem of_ev (b : List Int) (hb : Bytes b) (p : Int) (hp0 : 0 ≤ p) (hp : p < 1099511627776) (l : List ByteArray) (hl : 0 < l.length) : ∃ v, Ev (fun k => spec_l1Rd_of.f k b p l) (v, p + 1) ∧ v ∈ l := by
  obtain ⟨i, he, h0, h1⟩ := pick_ev b hb p (l.length : Int) hp0 hp
  have h1' := h1 (by omega)
  refine ⟨rdOf ByteArray.empty l i, ?_, ?_⟩
  · unfold spec_l1Rd_of.f
    refine Ev.bind he ?_
    exact Ev.ifp h0 (Ev.ifp h1' (Ev.now _))
  · unfold rdOf
    rw [getD_of (show i.toNat < l.length by omega)]
    exact List.getElem_mem _
def LblS (x : Lbl) : Prop := x.f0.size ≤ 40 ∧ x.f1.size ≤ 20 ∧ x.f0.data.toList.head? ≠ some 110
theorem many_ev : ∀ (m n : Nat) (s o : ByteArray), n ≤ m → n ≤ 1000 → o.size + s.size * n ≤ 1000000 → ∃ r, Ev (fun k => spec_l1Many.l0 k s (n : Int) o) r ∧ r.size = o.size + s.size * n
  | m, 0, s, o, _, _, _ => by
    refine ⟨o, ?_, by simp⟩
    refine Ev.step (fun k => by rw [spec_l1Many.l0]) ?_
    exact Ev.ifn (by simp) (Ev.now _)
  | 0, n + 1, s, o, h, _, _ => by omega
  | m + 1, n + 1, s, o, h, hn, hs => by
    have e1 : Int.tmod ((n + 1 : Nat) : Int) 2 = (((n + 1) % 2 : Nat) : Int) := by rw [Int.tmod_eq_emod_of_nonneg (by omega)]; omega
    have e2 : wrap64 (Int.tdiv ((n + 1 : Nat) : Int) 2) = (((n + 1) / 2 : Nat) : Int) := by rw [Int.tdiv_eq_ediv_of_nonneg (by omega), wrap_in (by omega) (by omega)]; omega
    have hss : s.size ≤ s.size * (n + 1) := Nat.le_mul_of_pos_right _ (by omega)
    have hdouble : (s ++ s).size = s.size + s.size := ByteArray.size_append
    have hpart : (s.size + s.size) * ((n + 1) / 2) + s.size * ((n + 1) % 2) = s.size * (n + 1) := by
      have h1 : n + 1 = 2 * ((n + 1) / 2) + (n + 1) % 2 := by omega
      conv => rhs; rw [h1]
      rw [Nat.mul_add, ← Nat.mul_assoc, Nat.mul_comm s.size 2, Nat.two_mul]
    by_cases c : (n + 1) % 2 = 1
    · have ho2 : (o ++ s).size = o.size + s.size := ByteArray.size_append
      rw [c, Nat.mul_one] at hpart
      obtain ⟨r, er, hr⟩ := many_ev m ((n + 1) / 2) (s ++ s) (o ++ s) (by omega) (by omega) (by rw [hdouble, ho2]; omega)
      refine ⟨r, ?_, by rw [hr, hdouble, ho2]; omega⟩
      refine Ev.step (fun k => by rw [spec_l1Many.l0]) ?_
      rw [e1, e2]
      exact Ev.ifp (by omega) (Ev.ifp (by omega) (Ev.ifp (by omega) (Ev.ifp (by omega) er)))
    · rw [show (n + 1) % 2 = 0 by omega, Nat.mul_zero] at hpart
      obtain ⟨r, er, hr⟩ := many_ev m ((n + 1) / 2) (s ++ s) o (by omega) (by omega) (by rw [hdouble]; omega)
      refine ⟨r, ?_, by rw [hr, hdouble]; omega⟩
      refine Ev.step (fun k => by rw [spec_l1Many.l0]) ?_
      rw [e1, e2]
      exact Ev.ifp (by omega) (Ev.ifn (by omega) (Ev.ifp (by omega) er))
theorem lbls_snoc {x : List Lbl} (h : ∀ y ∈ x, LblS y) {z : Lbl} (hz : LblS z) : ∀ y ∈ x ++ [z], LblS y := fun y hy => by
  rcases List.mem_append.1 hy with hy | hy
  · exact h y hy
  · rw [List.mem_singleton.1 hy]; exact hz
theorem lbls_set {x : List Lbl} (h : ∀ y ∈ x, LblS y) {z : Lbl} (hz : LblS z) (i : Nat) : ∀ y ∈ x.set i z, LblS y := fun y hy => by
  rcases List.mem_or_eq_of_mem_set hy with hy | hy
  · exact h y hy
  · rw [hy]; exact hz
def nms3 : List ByteArray := [(⟨#[97, 112, 112]⟩ : ByteArray), (⟨#[104, 111, 115, 116]⟩ : ByteArray), (⟨#[122, 111, 110, 101]⟩ : ByteArray)]
theorem head_mem {l : List ByteArray} (h : l.all (fun s => s.data.toList.head? != some 110) = true) {x : ByteArray} (hx : x ∈ l) : x.data.toList.head? ≠ some 110 := bne_iff_ne.mp (List.all_eq_true.1 h x hx)
theorem size_mem {l : List ByteArray} {n : Nat} (h : l.all (fun s => decide (s.size ≤ n)) = true) {x : ByteArray} (hx : x ∈ l) : x.size ≤ n := of_decide_eq_true (List.all_eq_true.1 h x hx)
theorem nms3_size (i : Nat) : (rdOf ByteArray.empty nms3 (i : Int)).size ≤ 4 ∧ (rdOf ByteArray.empty nms3 (i : Int)).data.toList.head? ≠ some 110 := by
  unfold rdOf nms3
  rw [Int.toNat_natCast]
  match i with
  | 0 => exact ⟨by decide, by decide⟩
  | 1 => exact ⟨by decide, by decide⟩
  | 2 => exact ⟨by decide, by decide⟩
  | i + 3 => exact ⟨by simp, by simp⟩
theorem l13Labels_l0 (b : List Int) (hb : Bytes b) : ∀ (d : Nat) (x : List Lbl) (p : Int), d ≤ 3 → x.length + d ≤ 3 → (∀ y ∈ x, LblS y) → 0 ≤ p → p + 4 * d ≤ 900000 → ∃ L q, Ev (fun k => spec_l13Labels.l0 k x nms3 3 ((3 - d : Nat) : Int) b p) (L, q) ∧ 1 ≤ L.length ∧ L.length ≤ 3 ∧ (∀ y ∈ L, LblS y) ∧ p ≤ q ∧ q ≤ p + 4 * d
  | 0, x, p, hd, hx, hl, h0, h1 => by
    by_cases c : (x.length : Int) = 0
    · refine ⟨x ++ [(⟨(⟨#[106, 111, 98]⟩ : ByteArray), (⟨#[120]⟩ : ByteArray)⟩ : Lbl)], p, ?_, by simp, by simp; omega, lbls_snoc hl ⟨by decide, by decide, by decide⟩, by omega, by omega⟩
      refine Ev.step (fun k => by rw [spec_l13Labels.l0]) ?_
      exact Ev.ifn (by simp) (Ev.ifp c (Ev.ifp (by omega) (Ev.now _)))
    · refine ⟨x, p, ?_, by omega, by omega, hl, by omega, by omega⟩
      refine Ev.step (fun k => by rw [spec_l13Labels.l0]) ?_
      exact Ev.ifn (by simp) (Ev.ifn c (Ev.now _))
  | d + 1, x, p, hd, hx, hl, h0, h1 => by
    obtain ⟨v, e, v0, v1⟩ := pick_ev b hb p 3 h0 (by omega)
    have hw : wrap64 (((3 - (d + 1) : Nat) : Int) + 1) = ((3 - d : Nat) : Int) := (wrap_in (by omega) (by omega)).trans (by omega)
    have hn := nms3_size (3 - (d + 1))
    have app : ∀ p', 0 ≤ p' → p' ≤ p + 2 → ∃ L q, Ev (fun k => (spec_l1Rd_of.f k b p' (([(⟨#[97]⟩ : ByteArray), (⟨#[97, 98]⟩ : ByteArray), (⟨#[98]⟩ : ByteArray), (⟨#[97]⟩ : ByteArray), (⟨#[97]⟩ : ByteArray)] : List ByteArray))).bind fun bt125 => (if x.length < 4398046511104 then (spec_l13Labels.l0 k (x ++ [(⟨rdOf ByteArray.empty nms3 ((3 - (d + 1) : Nat) : Int), bt125.1⟩ : Lbl)]) nms3 3 (wrap64 (((3 - (d + 1) : Nat) : Int) + 1)) b bt125.2) else (none))) (L, q) ∧ 1 ≤ L.length ∧ L.length ≤ 3 ∧ (∀ y ∈ L, LblS y) ∧ p' ≤ q ∧ q ≤ p' + 1 + 4 * d := by
      intro p' h0' h1'
      obtain ⟨w, ew, hw'⟩ := of_ev b hb p' h0' (by omega) [(⟨#[97]⟩ : ByteArray), (⟨#[97, 98]⟩ : ByteArray), (⟨#[98]⟩ : ByteArray), (⟨#[97]⟩ : ByteArray), (⟨#[97]⟩ : ByteArray)] (by simp)
      have hws := size_mem (n := 2) (by decide) hw'
      obtain ⟨L, q, e2, hL1, hL, hS, hq0, hq1⟩ := l13Labels_l0 b hb d (x ++ [(⟨rdOf ByteArray.empty nms3 ((3 - (d + 1) : Nat) : Int), w⟩ : Lbl)]) (p' + 1) (by omega) (by rw [List.length_append]; simp only [List.length_cons, List.length_nil]; omega) (lbls_snoc hl ⟨by show (rdOf ByteArray.empty nms3 _).size ≤ 40; omega, by show w.size ≤ 20; omega, hn.2⟩) (by omega) (by omega)
      refine ⟨L, q, ?_, hL1, hL, hS, by omega, by omega⟩
      rw [hw]
      exact Ev.bind ew (Ev.ifp (by omega) e2)
    have skip : ∀ p', 0 ≤ p' → p' ≤ p + 2 → ∃ L q, Ev (fun k => spec_l13Labels.l0 k x nms3 3 (wrap64 (((3 - (d + 1) : Nat) : Int) + 1)) b p') (L, q) ∧ 1 ≤ L.length ∧ L.length ≤ 3 ∧ (∀ y ∈ L, LblS y) ∧ p' ≤ q ∧ q ≤ p' + 4 * d := by
      intro p' h0' h1'
      rw [hw]
      obtain ⟨L, q, e2, hL1, hL, hS, hq0, hq1⟩ := l13Labels_l0 b hb d x p' (by omega) (by omega) hl h0' (by omega)
      exact ⟨L, q, e2, hL1, hL, hS, hq0, hq1⟩
    by_cases c : v = 0
    · obtain ⟨L, q, e2, hL1, hL, hS, hq0, hq1⟩ := app (p + 1) (by omega) (by omega)
      refine ⟨L, q, ?_, hL1, hL, hS, by omega, by omega⟩
      refine Ev.step (fun k => by rw [spec_l13Labels.l0]) ?_
      exact Ev.ifp (by omega) (Ev.ifp (by omega) (Ev.ifp (by show _ < ((3 : Nat) : Int); omega) (Ev.bind e (Ev.ifp c e2))))
    · by_cases c2 : (rdOf ByteArray.empty nms3 ((3 - (d + 1) : Nat) : Int)).toList = ([97, 112, 112] : List UInt8)
      · obtain ⟨u, e', u0, u1⟩ := pick_ev b hb (p + 1) 4 (by omega) (by omega)
        by_cases c3 : u > 0
        · obtain ⟨L, q, e2, hL1, hL, hS, hq0, hq1⟩ := app (p + 1 + 1) (by omega) (by omega)
          refine ⟨L, q, ?_, hL1, hL, hS, by omega, by omega⟩
          refine Ev.step (fun k => by rw [spec_l13Labels.l0]) ?_
          exact Ev.ifp (by omega) (Ev.ifp (by omega) (Ev.ifp (by show _ < ((3 : Nat) : Int); omega) (Ev.bind e (Ev.ifn c (Ev.ifp c2 (Ev.bind e' (Ev.ifp c3 e2)))))))
        · obtain ⟨L, q, e2, hL1, hL, hS, hq0, hq1⟩ := skip (p + 1 + 1) (by omega) (by omega)
          refine ⟨L, q, ?_, hL1, hL, hS, by omega, by omega⟩
          refine Ev.step (fun k => by rw [spec_l13Labels.l0]) ?_
          exact Ev.ifp (by omega) (Ev.ifp (by omega) (Ev.ifp (by show _ < ((3 : Nat) : Int); omega) (Ev.bind e (Ev.ifn c (Ev.ifp c2 (Ev.bind e' (Ev.ifn c3 e2)))))))
      · obtain ⟨L, q, e2, hL1, hL, hS, hq0, hq1⟩ := skip (p + 1) (by omega) (by omega)
        refine ⟨L, q, ?_, hL1, hL, hS, by omega, by omega⟩
        refine Ev.step (fun k => by rw [spec_l13Labels.l0]) ?_
        exact Ev.ifp (by omega) (Ev.ifp (by omega) (Ev.ifp (by show _ < ((3 : Nat) : Int); omega) (Ev.bind e (Ev.ifn c (Ev.ifn c2 e2)))))
theorem l13Labels_ev (b : List Int) (hb : Bytes b) (p : Int) (h0 : 0 ≤ p) (h1 : p ≤ 800000) : ∃ L q, Ev (fun k => spec_l13Labels.f k b p) (L, q) ∧ 1 ≤ L.length ∧ L.length ≤ 3 ∧ (∀ y ∈ L, LblS y) ∧ p ≤ q ∧ q ≤ p + 12 := by
  obtain ⟨L, q, e, hL1, hL, hS, hq0, hq1⟩ := l13Labels_l0 b hb 3 [] p (by omega) (by simp) (fun y hy => by cases hy) h0 (by omega)
  refine ⟨L, q, ?_, hL1, hL, hS, hq0, by omega⟩
  unfold spec_l13Labels.f
  exact Ev.bind (Ev.some_ rfl) e
theorem l13AnyLabels_l0 (b : List Int) (hb : Bytes b) : ∀ (d : Nat) (x : List Lbl) (p : Int), 5 ≤ x.length + d → x.length ≤ 5 → d ≤ 5 → (∀ y ∈ x, LblS y) → 0 ≤ p → p + d ≤ 1000000 → ∃ L q, Ev (fun k => spec_l13AnyLabels.l0 k x b p) (L, q) ∧ L.length ≤ 5 ∧ (∀ y ∈ L, LblS y) ∧ p ≤ q ∧ q ≤ p + d + 1
  | d, x, p, hd, h5, hd5, hl, h0, h1 => by
    obtain ⟨v, e, v0, v1⟩ := pick_ev b hb p 2 h0 (by omega)
    have v1 := v1 (by omega)
    have hw : wrap64 (4 + v) = 4 + v := wrap_in (by omega) (by omega)
    by_cases c : (x.length : Int) < 4 + v
    · match d, hd, hd5, h1 with
      | 0, hd, hd5, h1 => omega
      | d + 1, hd, hd5, h1 =>
        obtain ⟨t, et, ht⟩ := many_ev x.length x.length (⟨#[122]⟩ : ByteArray) (⟨#[]⟩ : ByteArray) (Nat.le_refl _) (by omega) (by show 0 + 1 * x.length ≤ 1000000; omega)
        have ht' : t.size = 0 + 1 * x.length := ht
        have hz : ((⟨#[122]⟩ : ByteArray) ++ t).size = 1 + t.size := ByteArray.size_append
        obtain ⟨L, q, e2, hL, hS, hq0, hq1⟩ := l13AnyLabels_l0 b hb d (x ++ [(⟨(⟨#[122]⟩ : ByteArray) ++ t, (⟨#[119]⟩ : ByteArray)⟩ : Lbl)]) (p + 1) (by rw [List.length_append]; simp only [List.length_cons, List.length_nil]; omega) (by rw [List.length_append]; simp only [List.length_cons, List.length_nil]; omega) (by omega) (lbls_snoc hl ⟨by show ((⟨#[122]⟩ : ByteArray) ++ t).size ≤ 40; omega, by show (1 : Nat) ≤ 20; omega, by show ((⟨#[122]⟩ : ByteArray) ++ t).data.toList.head? ≠ some 110; rw [ByteArray.data_append, Array.toList_append]; exact fun h_ => by cases h_⟩) (by omega) (by omega)
        refine ⟨L, q, ?_, hL, hS, by omega, by omega⟩
        refine Ev.step (fun k => by rw [spec_l13AnyLabels.l0]) ?_
        refine Ev.bind e ?_
        rw [hw]
        refine Ev.ifp c (Ev.bind (show Ev (fun k => spec_l1Many.f k (⟨#[122]⟩ : ByteArray) (x.length : Int)) t from et) ?_)
        exact Ev.ifp (by omega) (Ev.ifp (by omega) e2)
    · refine ⟨x, p + 1, ?_, h5, hl, by omega, by omega⟩
      refine Ev.step (fun k => by rw [spec_l13AnyLabels.l0]) ?_
      refine Ev.bind e ?_
      rw [hw]
      exact Ev.ifn c (Ev.now _)
theorem lblS_rd {l : List Lbl} (h : ∀ y ∈ l, LblS y) {i : Int} (h0 : 0 ≤ i) (h1 : i < (l.length : Int)) : LblS (rd_T52 l i) := by
  unfold rd_T52
  rw [getD_of (show i.toNat < l.length by omega)]
  exact h _ (List.getElem_mem _)
theorem l13AnyLabels_ev (b : List Int) (hb : Bytes b) (p : Int) (h0 : 0 ≤ p) (h1 : p ≤ 700000) : ∃ L q, Ev (fun k => spec_l13AnyLabels.f k b p) (L, q) ∧ L.length ≤ 5 ∧ (∀ y ∈ L, LblS y) ∧ p ≤ q ∧ q ≤ p + 30 := by
  obtain ⟨x, q, e, hx1, hx, hS, hq0, hq1⟩ := l13Labels_ev b hb p h0 (by omega)
  obtain ⟨i, ei, i0, i1⟩ := pick_ev b hb q (x.length : Int) (by omega) (by omega)
  have i1 := i1 (by omega)
  obtain ⟨v, ev, v0, v1⟩ := pick_ev b hb (q + 1) 16 (by omega) (by omega)
  unfold spec_l13AnyLabels.f
  by_cases c0 : v = 0
  · obtain ⟨w, ew, hw⟩ := of_ev b hb (q + 1 + 1) (by omega) (by omega) [(⟨#[]⟩ : ByteArray), (⟨#[65]⟩ : ByteArray), (⟨#[116, 111, 111, 108, 111, 110, 103]⟩ : ByteArray), (⟨#[122, 122]⟩ : ByteArray)] (by simp)
    have hws := size_mem (n := 7) (by decide) hw
    have hhd : w.data.toList.head? ≠ some 110 := head_mem (by decide) hw
    exact ⟨x.set (i : Int).toNat (⟨w, (rd_T52 x i).f1⟩ : Lbl), q + 1 + 1 + 1, Ev.bind e (Ev.bind ei (Ev.bind ev (Ev.ifp c0 (Ev.bind ew (Ev.ifp i0 (Ev.ifp i1 (Ev.now _))))))), by simp only [List.length_set]; omega, lbls_set hS (z := ⟨w, (rd_T52 x i).f1⟩) ⟨by show w.size ≤ 40; omega, (lblS_rd hS i0 i1).2.1, hhd⟩ _, by omega, by omega⟩
  by_cases c1 : v = 1
  · obtain ⟨w, ew, hw⟩ := of_ev b hb (q + 1 + 1) (by omega) (by omega) [(⟨#[]⟩ : ByteArray), (⟨#[120, 49]⟩ : ByteArray), (⟨#[110, 105, 110, 101, 99, 104, 97, 114, 115]⟩ : ByteArray), (⟨#[101, 105, 103, 104, 116, 99, 104, 114]⟩ : ByteArray)] (by simp)
    have hws := size_mem (n := 9) (by decide) hw
    exact ⟨x.set (i : Int).toNat (⟨(rd_T52 x i).f0, w⟩ : Lbl), q + 1 + 1 + 1, Ev.bind e (Ev.bind ei (Ev.bind ev (Ev.ifn c0 (Ev.ifp c1 (Ev.bind ew (Ev.ifp i0 (Ev.ifp i1 (Ev.now _)))))))), by simp only [List.length_set]; omega, lbls_set hS (z := ⟨(rd_T52 x i).f0, w⟩) ⟨(lblS_rd hS i0 i1).1, by show w.size ≤ 20; omega, (lblS_rd hS i0 i1).2.2⟩ _, by omega, by omega⟩
  by_cases c2 : v = 2
  · exact ⟨_, _, Ev.bind e (Ev.bind ei (Ev.bind ev (Ev.ifn c0 (Ev.ifn c1 (Ev.ifp c2 (Ev.now _)))))), by simp, fun y hy => by simp at hy, by simp only; omega, by simp only; omega⟩
  by_cases c3 : v = 3
  · obtain ⟨L, q2, e2, hL, hS2, g0, g1⟩ := l13AnyLabels_l0 b hb 5 x (q + 1 + 1) (by omega) (by omega) (by omega) hS (by omega) (by omega)
    exact ⟨L, q2, Ev.bind e (Ev.bind ei (Ev.bind ev (Ev.ifn c0 (Ev.ifn c1 (Ev.ifn c2 (Ev.ifp c3 e2)))))), hL, hS2, by omega, by omega⟩
  · exact ⟨x, _, Ev.bind e (Ev.bind ei (Ev.bind ev (Ev.ifn c0 (Ev.ifn c1 (Ev.ifn c2 (Ev.ifn c3 (Ev.now _))))))), by omega, hS, by simp only; omega, by simp only; omega⟩
theorem bdL_small {l : List Lbl} (hl : l.length ≤ 1000) (h : ∀ y ∈ l, LblS y) : bdL l = true := by
  unfold bdL
  rw [decide_eq_true (show l.length < 9223372036854775807 by omega), Bool.true_and]
  refine List.all_eq_true.2 fun x hx => ?_
  obtain ⟨h0, h1, _⟩ := h x hx
  simp only [bdS, decide_eq_true (show x.f0.size < 9223372036854775807 by omega), decide_eq_true (show x.f1.size < 9223372036854775807 by omega), Bool.and_self]
theorem one_ev (b : List Int) (hb : Bytes b) (p : Int) (hp0 : 0 ≤ p) (hp : p < 1099511627776) (l : List Int) (hl : 0 < l.length) : ∃ v, Ev (fun k => spec_l1Rd_one.f k b p l) (v, p + 1) ∧ v ∈ l := by
  obtain ⟨i, he, h0, h1⟩ := pick_ev b hb p (l.length : Int) hp0 hp
  have h1' := h1 (by omega)
  refine ⟨rd l i, ?_, ?_⟩
  · unfold spec_l1Rd_one.f
    refine Ev.bind he ?_
    exact Ev.ifp h0 (Ev.ifp h1' (Ev.now _))
  · unfold rd
    rw [getD_of (show i.toNat < l.length by omega)]
    exact List.getElem_mem _
def MchS (x : Mch) : Prop := 0 ≤ x.f0 ∧ x.f0 ≤ 5 ∧ x.f1.size ≤ 40 ∧ x.f2.size ≤ 20
theorem mchs_snoc {x : List Mch} (h : ∀ y ∈ x, MchS y) {z : Mch} (hz : MchS z) : ∀ y ∈ x ++ [z], MchS y := fun y hy => by
  rcases List.mem_append.1 hy with hy | hy
  · exact h y hy
  · rw [List.mem_singleton.1 hy]; exact hz
theorem l13Matches_l0 (b : List Int) (hb : Bytes b) : ∀ (d : Nat) (x : List Mch) (p : Int), d ≤ 2 → x.length + d ≤ 2 → (∀ y ∈ x, MchS y) → 0 ≤ p → p + 3 * d ≤ 900000 → ∃ L q, Ev (fun k => spec_l13Matches.l0 k x (d : Int) b p) (L, q) ∧ L.length ≤ 2 ∧ (∀ y ∈ L, MchS y) ∧ p ≤ q ∧ q ≤ p + 3 * d
  | 0, x, p, hd, hx, hl, h0, h1 => by
    refine ⟨x, p, ?_, by omega, hl, by omega, by omega⟩
    refine Ev.step (fun k => by rw [spec_l13Matches.l0]) ?_
    exact Ev.ifn (by simp) (Ev.now _)
  | d + 1, x, p, hd, hx, hl, h0, h1 => by
    obtain ⟨v, e, v0, v1⟩ := pick_ev b hb p 4 h0 (by omega)
    have v1 := v1 (by omega)
    obtain ⟨s, es, hs⟩ := of_ev b hb (p + 1) (by omega) (by omega) [(⟨#[97, 112, 112]⟩ : ByteArray), (⟨#[104, 111, 115, 116]⟩ : ByteArray), (⟨#[122, 111, 110, 101]⟩ : ByteArray), (⟨#[106, 111, 98]⟩ : ByteArray)] (by simp)
    obtain ⟨t, et, ht⟩ := of_ev b hb (p + 1 + 1) (by omega) (by omega) [(⟨#[97]⟩ : ByteArray), (⟨#[97, 98]⟩ : ByteArray), (⟨#[98]⟩ : ByteArray), (⟨#[]⟩ : ByteArray), (⟨#[97, 98, 99]⟩ : ByteArray), (⟨#[120]⟩ : ByteArray)] (by simp)
    have hs' := size_mem (n := 4) (by decide) hs
    have ht' := size_mem (n := 3) (by decide) ht
    have ew : wrap64 (1 + v) = 1 + v := wrap_in (by omega) (by omega)
    have hw : wrap64 (((d + 1 : Nat) : Int) - 1) = (d : Int) := (wrap_in (by omega) (by omega)).trans (by omega)
    obtain ⟨L, q, e2, hL, hS, hq0, hq1⟩ := l13Matches_l0 b hb d (x ++ [(⟨wrap64 (1 + v), s, t⟩ : Mch)]) (p + 1 + 1 + 1) (by omega) (by rw [List.length_append]; simp only [List.length_cons, List.length_nil]; omega) (mchs_snoc hl ⟨by show 0 ≤ wrap64 (1 + v); omega, by show wrap64 (1 + v) ≤ 5; omega, by show s.size ≤ 40; omega, by show t.size ≤ 20; omega⟩) (by omega) (by omega)
    refine ⟨L, q, ?_, hL, hS, by omega, by omega⟩
    refine Ev.step (fun k => by rw [spec_l13Matches.l0]) ?_
    rw [hw]
    exact Ev.ifp (by omega) (Ev.bind e (Ev.bind es (Ev.bind et (Ev.ifp (by omega) e2))))
theorem l13Matches_ev (b : List Int) (hb : Bytes b) (p : Int) (h0 : 0 ≤ p) (h1 : p ≤ 800000) : ∃ L q, Ev (fun k => spec_l13Matches.f k b p) (L, q) ∧ L.length ≤ 2 ∧ (∀ y ∈ L, MchS y) ∧ p ≤ q ∧ q ≤ p + 7 := by
  obtain ⟨v, e, v0, v1⟩ := pick_ev b hb p 3 h0 (by omega)
  have v1 := v1 (by omega)
  obtain ⟨n, rfl⟩ := Int.eq_ofNat_of_zero_le v0
  obtain ⟨L, q, e2, hL, hS, hq0, hq1⟩ := l13Matches_l0 b hb n [] (p + 1) (by omega) (by simp; omega) (fun y hy => by cases hy) (by omega) (by omega)
  refine ⟨L, q, ?_, hL, hS, by omega, by omega⟩
  unfold spec_l13Matches.f
  exact Ev.bind e e2
theorem l13AnyMatches_l0 (b : List Int) (hb : Bytes b) : ∀ (d : Nat) (x : List Mch) (p : Int), 5 ≤ x.length + d → x.length ≤ 5 → d ≤ 5 → (∀ y ∈ x, MchS y) → 0 ≤ p → p + d ≤ 1000000 → ∃ L q, Ev (fun k => spec_l13AnyMatches.l0 k x b p) (L, q) ∧ L.length ≤ 5 ∧ (∀ y ∈ L, MchS y) ∧ p ≤ q ∧ q ≤ p + d + 1
  | d, x, p, hd, h5, hd5, hl, h0, h1 => by
    obtain ⟨v, e, v0, v1⟩ := pick_ev b hb p 2 h0 (by omega)
    have v1 := v1 (by omega)
    have hw : wrap64 (4 + v) = 4 + v := wrap_in (by omega) (by omega)
    by_cases c : (x.length : Int) < 4 + v
    · match d, hd, hd5, h1 with
      | 0, hd, hd5, h1 => omega
      | d + 1, hd, hd5, h1 =>
        obtain ⟨L, q, e2, hL, hS, hq0, hq1⟩ := l13AnyMatches_l0 b hb d (x ++ [(⟨2, (⟨#[97, 112, 112]⟩ : ByteArray), (⟨#[113]⟩ : ByteArray)⟩ : Mch)]) (p + 1) (by rw [List.length_append]; simp only [List.length_cons, List.length_nil]; omega) (by rw [List.length_append]; simp only [List.length_cons, List.length_nil]; omega) (by omega) (mchs_snoc hl ⟨by show (0 : Int) ≤ 2; omega, by show (2 : Int) ≤ 5; omega, by show (3 : Nat) ≤ 40; omega, by show (1 : Nat) ≤ 20; omega⟩) (by omega) (by omega)
        refine ⟨L, q, ?_, hL, hS, by omega, by omega⟩
        refine Ev.step (fun k => by rw [spec_l13AnyMatches.l0]) ?_
        refine Ev.bind e ?_
        rw [hw]
        exact Ev.ifp c (Ev.ifp (by omega) e2)
    · refine ⟨x, p + 1, ?_, h5, hl, by omega, by omega⟩
      refine Ev.step (fun k => by rw [spec_l13AnyMatches.l0]) ?_
      refine Ev.bind e ?_
      rw [hw]
      exact Ev.ifn c (Ev.now _)
theorem l13AnyMatches_ev (b : List Int) (hb : Bytes b) (p : Int) (h0 : 0 ≤ p) (h1 : p ≤ 700000) : ∃ L q, Ev (fun k => spec_l13AnyMatches.f k b p) (L, q) ∧ L.length ≤ 5 ∧ (∀ y ∈ L, MchS y) ∧ p ≤ q ∧ q ≤ p + 20 := by
  obtain ⟨x, q, e, hx, hS, hq0, hq1⟩ := l13Matches_ev b hb p h0 (by omega)
  obtain ⟨v, ev, v0, v1⟩ := pick_ev b hb q 20 (by omega) (by omega)
  unfold spec_l13AnyMatches.f
  by_cases c0 : v = 0
  · obtain ⟨w, ew, hw⟩ := one_ev b hb (q + 1) (by omega) (by omega) [0, 5] (by simp)
    have hw' : w = 0 ∨ w = 5 := by simpa using hw
    exact ⟨_, _, Ev.bind e (Ev.bind ev (Ev.ifp c0 (Ev.bind ew (Ev.ifp (by simp only; omega) (Ev.now _))))), by simp; omega, mchs_snoc hS ⟨by show 0 ≤ w; omega, by show w ≤ 5; omega, by show (3 : Nat) ≤ 40; omega, by show (0 : Nat) ≤ 20; omega⟩, by simp only; omega, by simp only; omega⟩
  by_cases c1 : v = 1
  · obtain ⟨w, ew, hw⟩ := of_ev b hb (q + 1) (by omega) (by omega) [(⟨#[]⟩ : ByteArray), (⟨#[65]⟩ : ByteArray)] (by simp)
    have hws := size_mem (n := 1) (by decide) hw
    exact ⟨_, _, Ev.bind e (Ev.bind ev (Ev.ifn c0 (Ev.ifp c1 (Ev.bind ew (Ev.ifp (by simp only; omega) (Ev.now _)))))), by simp; omega, mchs_snoc hS ⟨by show (0 : Int) ≤ 1; omega, by show (1 : Int) ≤ 5; omega, by show w.size ≤ 40; omega, by show (0 : Nat) ≤ 20; omega⟩, by simp only; omega, by simp only; omega⟩
  by_cases c2 : v = 2
  · obtain ⟨L, q2, e2, hL, hS2, g0, g1⟩ := l13AnyMatches_l0 b hb 5 x (q + 1) (by omega) (by omega) (by omega) hS (by omega) (by omega)
    exact ⟨L, q2, Ev.bind e (Ev.bind ev (Ev.ifn c0 (Ev.ifn c1 (Ev.ifp c2 e2)))), hL, hS2, by omega, by omega⟩
  · exact ⟨x, _, Ev.bind e (Ev.bind ev (Ev.ifn c0 (Ev.ifn c1 (Ev.ifn c2 (Ev.now _))))), by omega, hS, by simp only; omega, by simp only; omega⟩
theorem bdM_small {l : List Mch} (hl : l.length ≤ 1000) (h : ∀ y ∈ l, MchS y) : bdM l = true := by
  unfold bdM
  rw [decide_eq_true (show l.length < 9223372036854775807 by omega), Bool.true_and]
  refine List.all_eq_true.2 fun x hx => ?_
  obtain ⟨_, _, h0, h1⟩ := h x hx
  simp only [bdS, decide_eq_true (show x.f1.size < 9223372036854775807 by omega), decide_eq_true (show x.f2.size < 9223372036854775807 by omega), Bool.and_self]
theorem DrawMatchesLet_ev (l : List Int) (hl : l.length ≤ maxLen) (h : ∀ x ∈ l, (Lit.int .u8 x).wf = true) : ∃ a b, Ev (fun k => spec_DrawMatchesLet.f k l) (a, b) ∧ a.length ≤ 5 ∧ (∀ y ∈ a, MchS y) ∧ b.length ≤ 5 ∧ (∀ y ∈ b, LblS y) := by
  obtain ⟨c, hc, hC⟩ := open_eq l hl h
  obtain ⟨a, q, e1, ha, hA, h0, h1⟩ := l13AnyMatches_ev c hC 0 (by omega) (by omega)
  obtain ⟨b, q2, e2, hb, hB, _, _⟩ := l13AnyLabels_ev c hC q (by omega) (by omega)
  refine ⟨a, b, ?_, ha, hA, hb, hB⟩
  unfold spec_DrawMatchesLet.f
  rw [hc]
  simp only [Option.bind_some]
  exact Ev.bind e1 (Ev.bind e2 (Ev.now _))
theorem one_mchs {x : Mch} (h : mchB x = true) : mchsB [x] = true := by
  unfold mchsB
  rw [List.all_cons, h]
  rfl
theorem one_let (x : Mch) (b : List Lbl) (h : mchB x = true) (hb : labelsB b = true) : matchesLetV [x] b = letB x.f0 x.f2 (wordL b x.f1) := by
  unfold matchesLetV
  rw [one_mchs h, hb]
  unfold letsB
  rw [List.all_cons, List.all_nil, Bool.and_true, Bool.true_and, Bool.true_and]
theorem bdM_one {x : Mch} (h1 : x.f1.size ≤ 40) (h2 : x.f2.size ≤ 20) : bdM [x] = true := by
  unfold bdM
  rw [List.all_cons, List.all_nil, Bool.and_true]
  simp only [bdS, decide_eq_true (show x.f1.size < 9223372036854775807 by omega), decide_eq_true (show x.f2.size < 9223372036854775807 by omega), Bool.and_self, Bool.and_true]
  rfl
theorem bl_irrefl : ∀ x : List UInt8, Op.bytesLess x x = false
  | [] => rfl
  | a :: x => by
    rw [Op.bytesLess, bl_irrefl x]
    simp
theorem bl_asymm : ∀ x y : List UInt8, Op.bytesLess x y = true → Op.bytesLess y x = false
  | [], [], h => by cases h
  | _ :: _, [], h => by cases h
  | [], _ :: _, _ => rfl
  | a :: x, b :: y, h => by
    rw [Op.bytesLess, Bool.or_eq_true, Bool.and_eq_true, decide_eq_true_eq, beq_iff_eq] at h
    rw [Op.bytesLess, Bool.or_eq_false_iff]
    rcases h with h | ⟨h, h2⟩
    · refine ⟨decide_eq_false (UInt8.lt_asymm h), ?_⟩
      rw [beq_eq_false_iff_ne.mpr (UInt8.ne_of_lt h).symm, Bool.false_and]
    · subst h
      refine ⟨decide_eq_false (UInt8.lt_irrefl a), ?_⟩
      rw [bl_asymm x y h2, Bool.and_false]
theorem bl_trans : ∀ x y z : List UInt8, Op.bytesLess x y = true → Op.bytesLess y z = true → Op.bytesLess x z = true
  | x, [], _, h, _ => by cases x <;> simp [Op.bytesLess] at h
  | _, _ :: _, [], _, h => by cases h
  | [], _ :: _, _ :: _, _, _ => rfl
  | a :: x, b :: y, c :: z, h, g => by
    rw [Op.bytesLess, Bool.or_eq_true, Bool.and_eq_true, decide_eq_true_eq, beq_iff_eq] at h g ⊢
    rcases h with h | ⟨h, h2⟩
    · rcases g with g | ⟨g, g2⟩
      · exact Or.inl (UInt8.lt_trans h g)
      · exact Or.inl (g ▸ h)
    · rcases g with g | ⟨g, g2⟩
      · exact Or.inl (h ▸ g)
      · exact Or.inr ⟨h.trans g, bl_trans x y z h2 g2⟩
theorem bl_tri : ∀ x y : List UInt8, Op.bytesLess x y = false → Op.bytesLess y x = false → x = y
  | [], [], _, _ => rfl
  | _ :: _, [], _, h => by cases h
  | [], _ :: _, h, _ => by cases h
  | a :: x, b :: y, h, g => by
    rw [Op.bytesLess, Bool.or_eq_false_iff, decide_eq_false_iff_not] at h g
    have e : a = b := UInt8.le_antisymm (UInt8.not_lt.mp g.1) (UInt8.not_lt.mp h.1)
    subst e
    have h2 := h.2
    have g2 := g.2
    rw [beq_self_eq_true, Bool.true_and] at h2 g2
    rw [bl_tri x y h2 g2]
theorem my_toList_inj {a b : ByteArray} (h : a.toList = b.toList) : a = b := by
  rw [ByteArray.toList_eq, ByteArray.toList_eq] at h
  exact Go.WideShapes.bytes_inj h

theorem chain_lt : ∀ (l : List Lbl) (q : Lbl), chainP lblR lblLt (some q) l = true → ∀ y ∈ l, lblLt q y = true
  | [], _, _, y, hy => by cases hy
  | x :: l, q, h, y, hy => by
    rw [chainP_cons, Bool.and_eq_true, Bool.and_eq_true] at h
    rcases List.mem_cons.1 hy with rfl | hy
    · exact h.1.2
    · exact bl_trans _ _ _ h.1.2 (chain_lt l x h.2 y hy)
theorem word_self : ∀ (l : List Lbl) (p : Option Lbl), chainP lblR lblLt p l = true → ∀ y ∈ l, wordL l y.f0 = y.f1 ∧ lblR y = true
  | [], _, _, y, hy => by cases hy
  | x :: l, p, h, y, hy => by
    rw [chainP_cons, Bool.and_eq_true, Bool.and_eq_true] at h
    rcases List.mem_cons.1 hy with rfl | hy
    · rw [wordL, if_pos (by rw [beq_self_eq_true])]
      exact ⟨rfl, h.1.1⟩
    · obtain ⟨h1, h2⟩ := word_self l (some x) h.2 y hy
      have lt := chain_lt l x h.2 y hy
      refine ⟨?_, h2⟩
      rw [wordL, if_neg ?_]
      · exact h1
      · intro e
        unfold lblLt at lt
        rw [beq_iff_eq.mp e, bl_irrefl] at lt
        cases lt
theorem labels_self {b : List Lbl} (h : labelsB b = true) {y : Lbl} (hy : y ∈ b) : wordL b y.f0 = y.f1 ∧ lettersB y.f0 6 = true ∧ (y.f0.toList != []) = true ∧ lettersB y.f1 8 = true ∧ (y.f1.toList != []) = true := by
  unfold labelsB at h
  rw [Bool.and_eq_true] at h
  obtain ⟨h1, h2⟩ := word_self b none h.1 y hy
  unfold lblR at h2
  rw [Bool.and_eq_true, Bool.and_eq_true, Bool.and_eq_true] at h2
  exact ⟨h1, h2.1.1.1, h2.1.1.2, h2.1.2, h2.2⟩
def nobody : ByteArray := ⟨#[110, 111, 98, 111, 100, 121]⟩
theorem word_nobody : ∀ (l : List Lbl), (∀ y ∈ l, LblS y) → wordL l nobody = ⟨#[]⟩
  | [], _ => rfl
  | x :: l, h => by
    rw [wordL, if_neg ?_]
    · exact word_nobody l (fun y hy => h y (List.mem_cons_of_mem _ hy))
    · intro e
      have e2 : x.f0.toList = nobody.toList := beq_iff_eq.mp e
      rw [ByteArray.toList_eq, ByteArray.toList_eq] at e2
      have h3 := (h x (List.mem_cons_self)).2.2
      rw [e2] at h3
      exact h3 rfl
theorem ext_data (s : ByteArray) (n : Nat) : (s.extract 0 n).data.toList = s.data.toList.take n := by
  rw [ByteArray.data_extract, Array.toList_extract]
  simp
theorem letters_ext (s : ByteArray) (n : Nat) (k : Int) (h : lettersB s k = true) : lettersB (s.extract 0 n) k = true := by
  unfold lettersB at h ⊢
  rw [Bool.and_eq_true] at h
  rw [ext_data, Bool.and_eq_true]
  refine ⟨List.all_eq_true.2 fun x hx => List.all_eq_true.1 h.1 x (List.mem_of_mem_take hx), ?_⟩
  have h2 := of_decide_eq_true h.2
  have h3 : (s.extract 0 n).size ≤ s.size := by rw [ByteArray.size_extract]; omega
  exact decide_eq_true (by omega)
theorem pre_ext (s : ByteArray) (n : Nat) (h : n ≤ s.size) : preB s (s.extract 0 n) = true := by
  have h3 : (s.extract 0 n).size = n := by rw [ByteArray.size_extract]; omega
  unfold preB
  rw [h3, decide_eq_true h, beq_self_eq_true]
  rfl
theorem some_loop (b : List Lbl) (hb : ∀ y ∈ b, LblS y) (hbl : b.length ≤ 5) (hbb : bdL b = true) (hl : labelsB b = true) : ∀ i, i ≤ b.length → Ev (fun k => laws_FnMatchesSome.l0 k b (i : Int)) true := by
  refine from_index ?_ ?_
  · refine Ev.step (fun k => by rw [laws_FnMatchesSome.l0]) ?_
    have E1 := impl_MatchesLet_eq [(⟨1, nobody, ⟨#[]⟩⟩ : Mch)] b (bdM_one (by decide) (by decide)) hbb
    have nil_ : (⟨#[]⟩ : ByteArray).toList = [] := ByteArray.toList_eq _
    have nob : ∀ k : Int, 1 ≤ k → k ≤ 4 → mchB (⟨k, nobody, ⟨#[]⟩⟩ : Mch) = true := by
      intro k h1 h4
      unfold mchB
      simp only [decide_eq_true h1, decide_eq_true h4, ByteArray.toList_eq]
      decide
    rw [one_let (⟨1, nobody, ⟨#[]⟩⟩ : Mch) b (nob 1 (by decide) (by decide)) hl] at E1
    have E2 := impl_MatchesLet_eq [(⟨4, nobody, ⟨#[]⟩⟩ : Mch)] b (bdM_one (by decide) (by decide)) hbb
    rw [one_let (⟨4, nobody, ⟨#[]⟩⟩ : Mch) b (nob 4 (by decide) (by decide)) hl] at E2
    simp only [word_nobody b hb] at E1 E2
    have l1 : letB 1 (⟨#[]⟩ : ByteArray) ⟨#[]⟩ = true := by
      show ((⟨#[]⟩ : ByteArray).toList == (⟨#[]⟩ : ByteArray).toList) = true
      rw [beq_self_eq_true]
    have l4 : letB 4 (⟨#[]⟩ : ByteArray) ⟨#[]⟩ = false := by
      show (!preB ⟨#[]⟩ ⟨#[]⟩) = false
      have := pre_ext ⟨#[]⟩ 0 (Nat.le_refl _)
      have e0 : (⟨#[]⟩ : ByteArray).extract 0 0 = ⟨#[]⟩ := rfl
      rw [e0] at this
      rw [this]; rfl
    refine Ev.ifn (by omega) (Ev.bind (Ev.const E1) (Ev.ifp l1 (Ev.bind (Ev.const E2) ?_)))
    exact Ev.some_ (by rw [l4]; rfl)
  · intro i hi ih
    have hx := List.getElem_mem hi
    obtain ⟨s1, s2, _⟩ := hb _ hx
    obtain ⟨w0, w1, w2, w3, w4⟩ := labels_self hl hx
    have mk : ∀ (k : Int) (p : ByteArray), 1 ≤ k → k ≤ 4 → lettersB p 8 = true → p.size ≤ 20 → impl_MatchesLet.f [(⟨k, b[i].f0, p⟩ : Mch)] b = some (letB k p b[i].f1) := by
      intro k p h1 h4 hp hps
      have hm : mchB ⟨k, b[i].f0, p⟩ = true := by
        unfold mchB
        rw [Bool.and_eq_true, Bool.and_eq_true, Bool.and_eq_true, Bool.and_eq_true]
        exact ⟨⟨⟨decide_eq_true h1, decide_eq_true h4⟩, w1, w2⟩, hp⟩
      rw [impl_MatchesLet_eq _ _ (bdM_one s1 hps) hbb, one_let _ _ hm hl, w0]
    refine Ev.step (fun k => by rw [laws_FnMatchesSome.l0]) ?_
    rw [rdL b hi]
    have l1 : letB 1 b[i].f1 b[i].f1 = true := by
      show (b[i].f1.toList == b[i].f1.toList) = true
      rw [beq_self_eq_true]
    have l2 : letB 1 ⟨#[]⟩ b[i].f1 = false := by
      show (b[i].f1.toList == (⟨#[]⟩ : ByteArray).toList) = false
      rw [show (⟨#[]⟩ : ByteArray).toList = [] from ByteArray.toList_eq _]
      exact beq_eq_false_iff_ne.mpr (bne_iff_ne.mp w4)
    have pre : ∀ n, n ≤ b[i].f1.size + 1 → Ev (fun k => laws_FnMatchesSome.l1 k b (i : Int) (n : Int) b[i].f0 b[i].f1) true := by
      refine from_index ?_ ?_
      · refine Ev.step (fun k => by rw [laws_FnMatchesSome.l1]) ?_
        rw [wrap_succ (show i < 9223372036854775807 by omega)]
        exact Ev.ifn (by omega) ih
      · intro n hn ihn
        refine Ev.step (fun k => by rw [laws_FnMatchesSome.l1]) ?_
        rw [Int.toNat_natCast, wrap_succ (show n < 9223372036854775807 by omega)]
        have hs : (b[i].f1.extract 0 n).size ≤ 20 := by rw [ByteArray.size_extract]; omega
        refine Ev.ifp (by omega) (Ev.ifp (by omega) (Ev.bind (Ev.const (mk 3 _ (by decide) (by decide) (letters_ext _ n _ w3) hs)) (Ev.ifp ?_ ihn)))
        exact pre_ext _ n (by omega)
    refine Ev.ifp (by omega) (Ev.ifp (by omega) (Ev.bind (Ev.const (mk 1 _ (by decide) (by decide) w3 s2)) (Ev.ifp l1 (Ev.bind (Ev.const (mk 1 ⟨#[]⟩ (by decide) (by decide) (by decide) (by decide))) ?_))))
    rw [l2]
    refine Ev.step (fun k => by rw [laws_FnMatchesSome.j2]) ?_
    exact Ev.ifn (by decide) (pre 0 (Nat.zero_le _))
theorem FnMatchesSome : laws_FnMatchesSome.Pure := by
  intro l hl _ h
  apply Ev.rounds
  unfold laws_FnMatchesSome.f
  by_cases c : (l.length : Int) > 1048576
  · exact Ev.ifp c (Ev.now _)
  refine Ev.ifn c ?_
  obtain ⟨a, b, D, hal, ha, hbl, hb⟩ := DrawMatchesLet_ev l hl h
  have hba := bdM_small (l := a) (by omega) ha
  have hbb := bdL_small (l := b) (by omega) hb
  refine Ev.bind D (Ev.bind (Ev.const (impl_MatchesLet_eq a b hba hbb)) (Ev.bind (spec_MatchesLet_ev a b hba hbb) (Ev.ifn (by simp) (Ev.bind (Ev.const (spec_LabelsOk_eq b hbb)) ?_))))
  refine Ev.step (fun k => by rw [laws_FnMatchesSome.j0]) ?_
  cases hlb : labelsB b
  · exact Ev.ifp rfl (Ev.bind (Ev.const (impl_MatchesLet_eq a b hba hbb)) (Ev.bind (spec_MatchesLet_ev a b hba hbb) (Ev.some_ (by rw [beq_self_eq_true]))))
  · exact Ev.ifn (by decide) (some_loop b hb hbl hbb hlb 0 (Nat.zero_le _))

end Go.Proofs.Ytipbllegjcedgaa.Pure
