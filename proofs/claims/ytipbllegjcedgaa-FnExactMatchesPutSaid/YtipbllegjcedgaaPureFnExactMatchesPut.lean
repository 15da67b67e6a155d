/- The program's MatchesPut answers as the reference's, for every list of matches; no condition. -/
import Derived.Test.YtipbllegjcedgaaFitFnExactMatchesPut
import Derived.Test.YtipbllegjcedgaaWOwn
set_option linter.unusedVariables false
set_option linter.unusedSimpArgs false
namespace Go.Proofs.Ytipbllegjcedgaa.Pure
open Go.RowKit Go.Proofs.Ytipbllegjcedgaa.QFnExactMatchesPut Go.Proofs.YtipbllegjcedgaaW.PrintWords Go.Proofs.YtipbllegjcedgaaW.PrintLast Go.Proofs.YtipbllegjcedgaaW.Own

theorem nat_lt {i n : Nat} (h : i < n) : ((i : Int) < (n : Int)) = True := by simp [h]
theorem nat_nlt {i n : Nat} (h : n ≤ i) : ((i : Int) < (n : Int)) = False := by simp [h]
theorem nat_pos (i : Nat) : (0 ≤ (i : Int)) = True := by simp
theorem wrap_succ {i : Nat} (h : i < 9223372036854775807) : wrap64 ((i : Int) + 1) = ((i + 1 : Nat) : Int) := by unfold wrap64; omega
theorem wrap_pred {i : Nat} (h : i < 9223372036854775807) : wrap64 ((i : Int) - 1) = (i : Int) - 1 := by unfold wrap64; omega
theorem wrap_sub {a : Int} {n : Nat} (h0 : 0 ≤ a) (h1 : a ≤ 9223372036854775807) (hn : n ≤ maxLen) : wrap64 (a - (n : Int)) = a - (n : Int) := by unfold wrap64; unfold maxLen at hn; omega
theorem rd_nat (l : List Int) (i : Nat) : rd l (i : Int) = l.getD i 0 := rfl
theorem getD_of {α : Type} {l : List α} {i : Nat} (h : i < l.length) (d : α) : l.getD i d = l[i] := by simp [List.getD, List.getElem?_eq_getElem h]
theorem drop_at {α : Type} {l : List α} {i : Nat} (h : i < l.length) : l.drop i = l[i] :: l.drop (i + 1) := List.drop_eq_getElem_cons h
theorem bt_nat (s : ByteArray) (i : Nat) (h : i < s.size) : bt s (i : Int) = ((s[i]'h).toNat : Int) := by
  unfold bt
  have : (i : Int).toNat = i := by omega
  simp [h]
/-- From an index on: at the end, and one round. -/
theorem from_index {P : Nat → Prop} {n : Nat} (h0 : P n) (h1 : ∀ i, i < n → P (i + 1) → P i) : ∀ i, i ≤ n → P i := by
  have key : ∀ d i, i + d = n → P i := by
    intro d
    induction d with
    | zero => intro i h; obtain rfl : i = n := by omega
              exact h0
    | succ d ih => intro i h; exact h1 i (by omega) (ih (i + 1) (by omega))
  intro i hi
  exact key (n - i) i (by omega)
/-- A row that is filled from the front. -/
def fillTo {α : Type} (xs : List α) (z : α) (i : Nat) : List α := xs.take i ++ List.replicate (xs.length - i) z
theorem fillTo_length {α : Type} (xs : List α) (z : α) (i : Nat) (h : i ≤ xs.length) : (fillTo xs z i).length = xs.length := by
  unfold fillTo; rw [List.length_append, List.length_take, List.length_replicate]; omega
theorem fillTo_zero {α : Type} (xs : List α) (z : α) : fillTo xs z 0 = List.replicate xs.length z := by simp [fillTo]
theorem fillTo_all {α : Type} (xs : List α) (z : α) : fillTo xs z xs.length = xs := by simp [fillTo]
theorem fillTo_set {α : Type} (xs : List α) (z : α) (i : Nat) (h : i < xs.length) : (fillTo xs z i).set i xs[i] = fillTo xs z (i + 1) := by
  unfold fillTo
  have hl : (xs.take i).length = i := by rw [List.length_take]; omega
  have e : xs.length - i = (xs.length - (i + 1)) + 1 := by omega
  rw [e, List.replicate_succ, List.set_append_right _ _ (by omega), hl, Nat.sub_self, List.set_cons_zero, List.take_succ_eq_append_getElem h, List.append_assoc]
  rfl
theorem spec_l1In_eq (a b c : Int) : spec_l1In.f a b c = some (decide (b ≤ a ∧ a ≤ c)) := by
  unfold spec_l1In.f
  by_cases h : a ≥ b
  · rw [if_pos h]
    have h' : b ≤ a := h
    simp [h']
  · rw [if_neg h]
    have h' : ¬ b ≤ a := h
    simp [h']
theorem impl_MatchesOk_eq (l : List Mch) (h : bdM l = true) : impl_MatchesOk.f l = some (mchsB l) := by unfold impl_MatchesOk.f; rw [if_pos h]
theorem spec_MatchesOk_ev (l : List Mch) (hb : bdM l = true) : Ev (fun k => spec_MatchesOk.f k l) (mchsB l) := by
  have hn := bdM_len hb
  have key : ∀ i, i ≤ l.length → Ev (fun k => spec_MatchesOk.l0 k l (i : Int)) ((l.drop i).all mchB && decide (l.length ≤ 4)) := by
    refine from_index ?_ ?_
    · refine Ev.step (fun k => by rw [spec_MatchesOk.l0]) ?_
      refine Ev.ifn (by omega) (Ev.some_ ?_)
      rw [List.drop_length, List.all_nil, Bool.true_and]
      exact decide_eq_decide.mpr (by omega)
    · intro i hi ih
      refine Ev.step (fun k => by rw [spec_MatchesOk.l0]) ?_
      refine Ev.ifp (by omega) (Ev.ifp (by omega) ?_)
      have e : rd_T48 l (i : Int) = l[i] := by unfold rd_T48; rw [Int.toNat_natCast, getD_of hi]
      obtain ⟨h1, h2⟩ := bdM_at hb (List.getElem_mem hi)
      rw [e, wrap_succ (show i < 9223372036854775807 by omega), drop_at hi, List.all_cons]
      have hN : spec_l3Name.f l[i].f1 = some (lettersB l[i].f1 6 && (l[i].f1.toList != [])) := by unfold spec_l3Name.f; rw [if_pos h1]
      have hW : spec_l3Letters.f l[i].f2 8 = some (lettersB l[i].f2 8) := by unfold spec_l3Letters.f; rw [if_pos h2]
      have hm : mchB l[i] = ((decide (1 ≤ l[i].f0) && decide (l[i].f0 ≤ 4)) && (lettersB l[i].f1 6 && (l[i].f1.toList != [])) && lettersB l[i].f2 8) := rfl
      rw [hm]
      refine Ev.bind (Ev.const (spec_l1In_eq _ _ _)) ?_
      by_cases c1 : 1 ≤ l[i].f0 ∧ l[i].f0 ≤ 4
      · rw [decide_eq_true c1, decide_eq_true c1.1, decide_eq_true c1.2]
        refine Ev.ifp rfl (Ev.bind (Ev.const hN) ?_)
        cases c2 : (lettersB l[i].f1 6 && (l[i].f1.toList != []))
        · exact Ev.ifn (by decide) (Ev.now _)
        · refine Ev.ifp rfl (Ev.bind (Ev.const hW) ?_)
          cases c3 : lettersB l[i].f2 8
          · exact Ev.ifn (by decide) (Ev.now _)
          · exact Ev.ifp rfl ih
      · rw [decide_eq_false c1]
        have c0 : (decide (1 ≤ l[i].f0) && decide (l[i].f0 ≤ 4)) = false := by
          by_cases h1 : 1 ≤ l[i].f0
          · rw [decide_eq_true h1, decide_eq_false (by omega)]; rfl
          · rw [decide_eq_false h1]; rfl
        rw [c0]
        exact Ev.ifn (by decide) (Ev.now _)
  unfold spec_MatchesOk.f
  have := key 0 (Nat.zero_le _)
  rw [List.drop_zero, Bool.and_comm] at this
  exact this
def In_Match (x : S75) : Prop := x.f1.size ≤ 1048576 ∧ x.f2.size ≤ 1048576
def Bd_Match (x : S48) : Prop := x.f1.size ≤ 1048576 ∧ x.f2.size ≤ 1048576
def cv_Match (x : S75) : S48 := ⟨x.f0, x.f1, x.f2⟩
theorem rdl_Match (l : List S75) (i : Nat) : rd_T75 l (i : Int) = l.getD i z75 := rfl
theorem rdi_Match (l : List S48) (i : Nat) : rd_T48 l (i : Int) = l.getD i z48 := rfl
theorem rdp_Match (l : List S48) (i : Nat) (h : 0 < i) : rd_T48 l ((i : Int) - 1) = l.getD (i - 1) z48 := by
  unfold rd_T48
  congr 1
  omega
theorem cvbd_Match (x : S75) (h : In_Match x) : Bd_Match (cv_Match x) := ⟨h.1, h.2⟩
theorem cvbds_Match (l : List S75) (h : ∀ x ∈ l, In_Match x) : ∀ y ∈ l.map cv_Match, Bd_Match y := fun y hy => by obtain ⟨u, hu, rfl⟩ := List.mem_map.1 hy; exact cvbd_Match u (h u hu)
theorem bdM_of (l : List Mch) (hl : l.length ≤ 1048576) (h : ∀ x ∈ l, Bd_Match x) : bdM l = true := by
  unfold bdM
  rw [decide_eq_true (show l.length < 9223372036854775807 by omega), Bool.true_and]
  refine List.all_eq_true.2 fun x hx => ?_
  have hb := h x hx
  unfold Bd_Match at hb
  simp only [bdS, decide_eq_true (show x.f1.size < 9223372036854775807 by omega), decide_eq_true (show x.f2.size < 9223372036854775807 by omega), Bool.and_self]
theorem ba_ext_ {a b : ByteArray} (h : a.data.toList = b.data.toList) : a = b := Go.WideShapes.bytes_inj h
theorem ba_app (a b : ByteArray) : (a ++ b).data.toList = a.data.toList ++ b.data.toList := by rw [ByteArray.data_append, Array.toList_append]
theorem ba_assoc (a b c : ByteArray) : (a ++ b) ++ c = a ++ (b ++ c) := ba_ext_ (by simp only [ba_app, List.append_assoc])
theorem joinV_snoc (xs : List ByteArray) (y sep : ByteArray) : joinV (xs ++ [y]) sep = if xs = [] then y else (joinV xs sep ++ sep) ++ y := by
  match xs with
  | [] =>
    rw [if_pos rfl]
    refine ba_ext_ ?_
    unfold joinV
    rw [List.nil_append, List.map_cons, List.map_nil, Go.Lib.join_one]
  | x :: r =>
    rw [if_neg (by simp)]
    refine ba_ext_ ?_
    rw [ba_app, ba_app]
    unfold joinV
    rw [List.cons_append, List.map_cons, Go.Lib.join_cons, List.map_cons, Go.Lib.join_cons, List.map_append, List.map_cons, List.map_nil]
    unfold Go.Lib.joinTail
    rw [List.map_append, List.flatten_append]
    simp
def putAcc (o : ByteArray) (l : List ByteArray) : Nat → ByteArray
  | 0 => o
  | i + 1 => (if 0 < i then putAcc o l i ++ (⟨#[44]⟩ : ByteArray) else putAcc o l i) ++ l.getD i ByteArray.empty
theorem putAcc_join (o : ByteArray) (l : List ByteArray) : ∀ i, i ≤ l.length → putAcc o l i = o ++ joinV (l.take i) ⟨#[44]⟩
  | 0, _ => by
    refine ba_ext_ ?_
    rw [ba_app]
    show o.data.toList = o.data.toList ++ []
    rw [List.append_nil]
  | i + 1, h => by
    rw [putAcc, putAcc_join o l i (by omega), List.take_succ_eq_append_getElem (show i < l.length by omega), joinV_snoc, getD_of (show i < l.length by omega)]
    by_cases h0 : 0 < i
    · rw [if_pos h0, if_neg (by intro e; have := congrArg List.length e; rw [List.length_take, List.length_nil] at this; omega)]
      simp only [ba_assoc]
    · obtain rfl : i = 0 := by omega
      rw [if_neg h0, if_pos (by rw [List.take_zero])]
      refine ba_ext_ ?_
      rw [ba_app, ba_app, ba_app]
      show (o.data.toList ++ []) ++ _ = _
      rw [List.append_nil]
theorem putAcc_size (o : ByteArray) (l : List ByteArray) (m : Nat) (hm : ∀ x ∈ l, x.size ≤ m) : ∀ i, i ≤ l.length → (putAcc o l i).size ≤ o.size + (m + 1) * i
  | 0, _ => by rw [putAcc]; omega
  | i + 1, h => by
    have ih := putAcc_size o l m hm i (by omega)
    have hx := hm _ (List.getElem_mem (show i < l.length by omega))
    rw [putAcc, ByteArray.size_append, getD_of (show i < l.length by omega), Nat.mul_succ]
    split
    · rw [ByteArray.size_append]
      have : (⟨#[44]⟩ : ByteArray).size = 1 := rfl
      omega
    · omega
theorem joinV_size (l : List ByteArray) (m : Nat) (hm : ∀ x ∈ l, x.size ≤ m) : (joinV l ⟨#[44]⟩).size ≤ (m + 1) * l.length := by
  have h := putAcc_size ⟨#[]⟩ l m hm l.length (Nat.le_refl _)
  rw [putAcc_join _ _ _ (Nat.le_refl _), List.take_length, ByteArray.size_append] at h
  have : (⟨#[]⟩ : ByteArray).size = 0 := rfl
  omega
theorem strings_Join_eq (l : List ByteArray) (m : Nat) (hm : ∀ x ∈ l, x.size ≤ m) (hl : l.length ≤ 1000) (hm2 : m ≤ 1000) : strings_Join.f l (⟨#[44]⟩ : ByteArray) = some (joinV l ⟨#[44]⟩) := by
  have h := joinV_size l m hm
  have e : (joinV l ⟨#[44]⟩).size = (Go.Lib.join (l.map (·.data.toList)) (⟨#[44]⟩ : ByteArray).data.toList).length := by
    unfold joinV
    show (Array.size _) = _
    rw [List.size_toArray]
  have h2 : (m + 1) * l.length ≤ 1001 * 1000 := Nat.mul_le_mul (by omega) hl
  unfold strings_Join.f
  rw [if_pos ⟨by omega, by omega⟩]
theorem letters_small {s : ByteArray} {n : Int} (h : lettersB s n = true) : (s.size : Int) ≤ n := by
  unfold lettersB at h
  rw [Bool.and_eq_true] at h
  exact of_decide_eq_true h.2
theorem matches_small {l : List Mch} (h : mchsB l = true) : l.length ≤ 4 ∧ ∀ x ∈ l, (1 ≤ x.f0 ∧ x.f0 ≤ 4) ∧ x.f1.size ≤ 6 ∧ x.f2.size ≤ 8 := by
  unfold mchsB at h
  rw [Bool.and_eq_true] at h
  refine ⟨of_decide_eq_true h.1, fun x hx => ?_⟩
  have hR := List.all_eq_true.1 h.2 x hx
  unfold mchB at hR
  rw [Bool.and_eq_true, Bool.and_eq_true, Bool.and_eq_true, Bool.and_eq_true] at hR
  have h1 := letters_small hR.1.2.1
  have h2 := letters_small hR.2
  exact ⟨⟨of_decide_eq_true hR.1.1.1, of_decide_eq_true hR.1.1.2⟩, by omega, by omega⟩
theorem rdMp (l : List Mch) {i : Nat} (h : i < l.length) : rd_T48 l (i : Int) = l[i] := by unfold rd_T48; rw [Int.toNat_natCast, getD_of h]
def sgn (k : Int) : ByteArray := rdOf ByteArray.empty [(⟨#[]⟩ : ByteArray), (⟨#[61]⟩ : ByteArray), (⟨#[33]⟩ : ByteArray), (⟨#[94]⟩ : ByteArray), (⟨#[126]⟩ : ByteArray)] k
theorem sgn_facts (k : Int) (h1 : 1 ≤ k) (h4 : k ≤ 4) : (sgn k).size = 1 ∧ (⟨#[32, 61, 33, 94, 126]⟩ : ByteArray).extract k.toNat (k + 1).toNat = sgn k := by
  have : k = 1 ∨ k = 2 ∨ k = 3 ∨ k = 4 := by omega
  rcases this with rfl | rfl | rfl | rfl
  · exact ⟨rfl, rfl⟩
  · exact ⟨rfl, rfl⟩
  · exact ⟨rfl, rfl⟩
  · exact ⟨rfl, rfl⟩
theorem spec_l3Sign_eq (k : Int) (h1 : 1 ≤ k) (h4 : k ≤ 4) : spec_l3Sign.f k = some (sgn k) := by
  unfold spec_l3Sign.f
  rw [if_pos (by omega)]
  rfl
def partM (x : Mch) : ByteArray := (x.f1 ++ sgn x.f0) ++ x.f2
theorem partM_size (x : Mch) (h : (sgn x.f0).size = 1) : (partM x).size = x.f1.size + 1 + x.f2.size := by
  unfold partM
  rw [ByteArray.size_append, ByteArray.size_append, h]
def matchesText (l : List Mch) : ByteArray := putAcc ⟨#[91]⟩ (l.map partM) l.length ++ (⟨#[93]⟩ : ByteArray)
theorem spec_l3Matches_ev (l : List Mch) (hl : l.length ≤ 4) (h : ∀ x ∈ l, (1 ≤ x.f0 ∧ x.f0 ≤ 4) ∧ x.f1.size ≤ 6 ∧ x.f2.size ≤ 8) : Ev (fun k => spec_l3Matches.f k l) (matchesText l) := by
  have hm : (l.map partM).length = l.length := List.length_map _
  have hp : ∀ x ∈ l.map partM, x.size ≤ 15 := fun x hx => by
    obtain ⟨y, hy, rfl⟩ := List.mem_map.1 hx
    have := h y hy
    rw [partM_size y (sgn_facts _ this.1.1 this.1.2).1]
    omega
  have sz : ∀ i, i ≤ l.length → (putAcc ⟨#[91]⟩ (l.map partM) i).size ≤ 65 := fun i hi => by
    have := putAcc_size ⟨#[91]⟩ (l.map partM) 15 hp i (by omega)
    have e : (⟨#[91]⟩ : ByteArray).size = 1 := rfl
    omega
  have s1 : ∀ b : UInt8, (⟨#[b]⟩ : ByteArray).size = 1 := fun _ => rfl
  have key : ∀ i, i ≤ l.length → Ev (fun k => spec_l3Matches.l0 k l (putAcc ⟨#[91]⟩ (l.map partM) i) (i : Int)) (matchesText l) := by
    refine from_index ?_ ?_
    · refine Ev.step (fun k => by rw [spec_l3Matches.l0]) ?_
      have := sz l.length (Nat.le_refl _)
      exact Ev.ifn (by omega) (Ev.ifp (by omega) (Ev.now _))
    · intro i hi ih
      obtain ⟨hk, hx⟩ := h _ (List.getElem_mem hi)
      have hg := (sgn_facts _ hk.1 hk.2).1
      have hz := sz i (by omega)
      have st : putAcc ⟨#[91]⟩ (l.map partM) (i + 1) = (if 0 < i then putAcc ⟨#[91]⟩ (l.map partM) i ++ (⟨#[44]⟩ : ByteArray) else putAcc ⟨#[91]⟩ (l.map partM) i) ++ partM l[i] := by
        rw [putAcc, getD_of (show i < (l.map partM).length by omega), List.getElem_map]
      refine Ev.step (fun k => by rw [spec_l3Matches.l0]) ?_
      rw [rdMp l hi, wrap_succ (show i < 9223372036854775807 by omega)]
      refine Ev.ifp (by omega) ?_
      by_cases c : 0 < i
      · rw [st, if_pos c] at ih
        refine Ev.ifp (by omega) (Ev.ifp (by omega) (Ev.ifp (by omega) (Ev.ifp ?_ (Ev.bind (Ev.const (spec_l3Sign_eq _ hk.1 hk.2)) (Ev.ifp ?_ (Ev.ifp ?_ ?_))))))
        · (try simp only [ByteArray.size_append, s1]); omega
        · (try simp only [ByteArray.size_append, s1, hg]); omega
        · (try simp only [ByteArray.size_append, s1, hg]); omega
        · rw [show (((putAcc ⟨#[91]⟩ (l.map partM) i ++ (⟨#[44]⟩ : ByteArray)) ++ l[i].f1) ++ sgn l[i].f0) ++ l[i].f2 = (putAcc ⟨#[91]⟩ (l.map partM) i ++ (⟨#[44]⟩ : ByteArray)) ++ partM l[i] by unfold partM; simp only [ba_assoc]]
          exact ih
      · rw [st, if_neg c] at ih
        refine Ev.ifn (by omega) (Ev.ifp (by omega) (Ev.ifp ?_ (Ev.bind (Ev.const (spec_l3Sign_eq _ hk.1 hk.2)) (Ev.ifp ?_ (Ev.ifp ?_ ?_)))))
        · (try simp only [ByteArray.size_append, s1]); omega
        · (try simp only [ByteArray.size_append, s1, hg]); omega
        · (try simp only [ByteArray.size_append, s1, hg]); omega
        · rw [show ((putAcc ⟨#[91]⟩ (l.map partM) i ++ l[i].f1) ++ sgn l[i].f0) ++ l[i].f2 = putAcc ⟨#[91]⟩ (l.map partM) i ++ partM l[i] by unfold partM; simp only [ba_assoc]]
          exact ih
  unfold spec_l3Matches.f
  exact key 0 (Nat.zero_le _)
theorem impl_MatchesPut_loop (l : List Mch) (hl : l.length ≤ 4) (h : ∀ x ∈ l, (1 ≤ x.f0 ∧ x.f0 ≤ 4) ∧ x.f1.size ≤ 6 ∧ x.f2.size ≤ 8) : Ev (fun k => impl_MatchesPut.l0 k ([] : List ByteArray) l (l.length : Int) 0) (matchesText l) := by
  have hm : (l.map partM).length = l.length := List.length_map _
  have hp : ∀ x ∈ l.map partM, x.size ≤ 15 := fun x hx => by
    obtain ⟨y, hy, rfl⟩ := List.mem_map.1 hx
    have := h y hy
    rw [partM_size y (sgn_facts _ this.1.1 this.1.2).1]
    omega
  have s1 : ∀ b : UInt8, (⟨#[b]⟩ : ByteArray).size = 1 := fun _ => rfl
  have key : ∀ i, i ≤ l.length → Ev (fun k => impl_MatchesPut.l0 k ((l.map partM).take i) l (l.length : Int) (i : Int)) (matchesText l) := by
    refine from_index ?_ ?_
    · refine Ev.step (fun k => by rw [impl_MatchesPut.l0]) ?_
      rw [← hm, List.take_length]
      have hj := joinV_size (l.map partM) 15 hp
      refine Ev.ifn (by omega) (Ev.bind (Ev.const (strings_Join_eq (l.map partM) 15 hp (by omega) (by omega))) (Ev.ifp (by omega) (Ev.ifp ?_ (Ev.some_ ?_))))
      · (try simp only [ByteArray.size_append, s1]); omega
      · unfold matchesText
        rw [← hm, putAcc_join _ _ _ (Nat.le_refl _), List.take_length]
    · intro i hi ih
      obtain ⟨hk, hx⟩ := h _ (List.getElem_mem hi)
      have hg := sgn_facts _ hk.1 hk.2
      refine Ev.step (fun k => by rw [impl_MatchesPut.l0]) ?_
      have ew : wrap64 (l[i].f0 + 1) = l[i].f0 + 1 := wrap_in (by omega) (by omega)
      rw [rdMp l hi, wrap_succ (show i < 9223372036854775807 by omega), ew, hg.2]
      rw [List.take_succ_eq_append_getElem (show i < (l.map partM).length by omega), List.getElem_map] at ih
      refine Ev.ifp (by omega) (Ev.ifp (by omega) (Ev.ifp (by omega) (Ev.ifp (by omega) (Ev.ifp (by omega) (Ev.ifp (by omega) (Ev.ifp ?_ (Ev.ifp ?_ (Ev.ifp ?_ ih))))))))
      · rw [hg.1]; omega
      · simp only [ByteArray.size_append, hg.1]; omega
      · rw [List.length_take]; omega
  exact key 0 (Nat.zero_le _)
def matchesPutV (l : List Mch) : ByteArray := if mchsB l = true then matchesText l else ⟨#[]⟩
theorem spec_MatchesPut_ev (l : List Mch) (hb : bdM l = true) : Ev (fun k => spec_MatchesPut.f k l) (matchesPutV l) := by
  unfold spec_MatchesPut.f matchesPutV
  refine Ev.bind (spec_MatchesOk_ev l hb) ?_
  cases h : mchsB l
  · exact Ev.ifn (by decide) (Ev.some_ rfl)
  · obtain ⟨h1, h2⟩ := matches_small h
    exact Ev.ifp rfl (Ev.bind (spec_l3Matches_ev l h1 h2) (Ev.some_ rfl))
theorem impl_MatchesPut_ev (l : List Mch) (hb : bdM l = true) : Ev (fun k => impl_MatchesPut.f k l) (matchesPutV l) := by
  unfold impl_MatchesPut.f matchesPutV
  refine Ev.bind (Ev.const (impl_MatchesOk_eq l hb)) ?_
  cases h : mchsB l
  · exact Ev.ifn (by decide) (Ev.some_ rfl)
  · obtain ⟨h1, h2⟩ := matches_small h
    exact Ev.ifp rfl (impl_MatchesPut_loop l h1 h2)
theorem sz_Match (x : S75) (hf : Fit75 x) (a : Int) (h0 : 0 ≤ a) (h1 : a ≤ 1048576) : ∃ r, Ev (fun k => laws_szMatch.f x.f0 x.f1 x.f2 a) r ∧ (r = -1 ∨ (0 ≤ r ∧ r ≤ a ∧ In_Match x)) := by
  unfold laws_szMatch.f
  have hz1 : x.f1.size ≤ maxLen := hf.2.1
  have w1 : wrap64 (a - (x.f1.size : Int)) = a - (x.f1.size : Int) := wrap_sub (by omega) (by omega) hz1
  simp only [w1]
  by_cases c1 : a - (x.f1.size : Int) < 0
  · exact ⟨-1, Ev.ifp c1 (Ev.now _), .inl rfl⟩
  obtain ⟨b1, hb1⟩ : ∃ b, b = a - (x.f1.size : Int) := ⟨_, rfl⟩
  rw [← hb1] at c1
  simp only [← hb1]
  have hz2 : x.f2.size ≤ maxLen := hf.2.2
  have w2 : wrap64 (b1 - (x.f2.size : Int)) = b1 - (x.f2.size : Int) := wrap_sub (by omega) (by omega) hz2
  simp only [w2]
  by_cases c2 : b1 - (x.f2.size : Int) < 0
  · exact ⟨-1, Ev.ifn c1 (Ev.ifp c2 (Ev.now _)), .inl rfl⟩
  obtain ⟨b2, hb2⟩ : ∃ b, b = b1 - (x.f2.size : Int) := ⟨_, rfl⟩
  rw [← hb2] at c2
  simp only [← hb2]
  refine ⟨b2, Ev.ifn c1 (Ev.ifn c2 (Ev.now _)), .inr ⟨by omega, by omega, ⟨(show x.f1.size ≤ 1048576 by omega), (show x.f2.size ≤ 1048576 by omega)⟩⟩⟩
theorem szs_Match (l : List S75) (hf : FitList Fit75 l) (a : Int) (h0 : 0 ≤ a) (h1 : a ≤ 1048576) : ∃ r, Ev (fun k => laws_szMatchS.f k l a) r ∧ (r = -1 ∨ (0 ≤ r ∧ r ≤ a ∧ l.length ≤ 1048576 ∧ ∀ x ∈ l, In_Match x)) := by
  have w : wrap64 (a - (l.length : Int)) = a - (l.length : Int) := wrap_sub h0 (by omega) hf.1
  unfold laws_szMatchS.f
  simp only [w]
  by_cases c : a - (l.length : Int) < 0
  · exact ⟨-1, Ev.ifp c (Ev.now _), .inl rfl⟩
  have key : ∀ i, i ≤ l.length → ∀ b : Int, 0 ≤ b → b ≤ a → ∃ r, Ev (fun k => laws_szMatchS.l0 k l b (i : Int)) r ∧ (r = -1 ∨ (0 ≤ r ∧ r ≤ b ∧ ∀ x ∈ l.drop i, In_Match x)) := by
    refine from_index ?_ ?_
    · intro b hb0 hb1
      refine ⟨b, ?_, .inr ⟨hb0, Int.le_refl _, by rw [List.drop_length]; intro x hx; cases hx⟩⟩
      refine Ev.step (fun k => by rw [laws_szMatchS.l0]) ?_
      simp only [nat_nlt (Nat.le_refl _), if_false]
      exact Ev.now _
    · intro i hi ih b hb0 hb1
      obtain ⟨r1, e1, hr1⟩ := sz_Match l[i] (hf.2 _ (List.getElem_mem _)) b hb0 (by omega)
      rcases hr1 with hr1 | ⟨hr0, hrb, hin⟩
      · refine ⟨-1, ?_, .inl rfl⟩
        refine Ev.step (fun k => by rw [laws_szMatchS.l0]) ?_
        simp only [nat_lt hi, nat_pos, if_true, rdl_Match, getD_of hi]
        exact Ev.bind e1 (Ev.ifp (by omega) (Ev.now _))
      · obtain ⟨r2, e2, hr2⟩ := ih r1 hr0 (by omega)
        refine ⟨r2, ?_, ?_⟩
        · refine Ev.step (fun k => by rw [laws_szMatchS.l0]) ?_
          simp only [nat_lt hi, nat_pos, if_true, rdl_Match, getD_of hi, wrap_succ (show i < 9223372036854775807 by omega)]
          exact Ev.bind e1 (Ev.ifn (by omega) e2)
        · rcases hr2 with hr2 | ⟨h3, h4, h5⟩
          · exact .inl hr2
          · refine .inr ⟨h3, by omega, ?_⟩
            rw [drop_at hi]
            intro x hx
            rcases List.mem_cons.1 hx with rfl | hx
            · exact hin
            · exact h5 x hx
  obtain ⟨r, er, hr⟩ := key 0 (Nat.zero_le _) (a - (l.length : Int)) (by omega) (by omega)
  refine ⟨r, Ev.ifn c er, ?_⟩
  rcases hr with hr | ⟨h3, h4, h5⟩
  · exact .inl hr
  · exact .inr ⟨h3, by omega, by omega, by rwa [List.drop_zero] at h5⟩
theorem to_Match (x : S75) (h : In_Match x) : Ev (fun k => laws_toMatch.f x.f0 x.f1 x.f2) ((cv_Match x).f0, (cv_Match x).f1, (cv_Match x).f2) := Ev.const rfl
theorem tos_Match (l : List S75) (hl : l.length ≤ 1048576) (h : ∀ x ∈ l, In_Match x) : Ev (fun k => laws_toMatchS.f k l) (l.map cv_Match) := by
  have hm : (l.map cv_Match).length = l.length := List.length_map _
  have key : ∀ i, i ≤ l.length → Ev (fun k => laws_toMatchS.l0 k l (fillTo (l.map cv_Match) z48 i) (i : Int)) (l.map cv_Match) := by
    refine from_index ?_ ?_
    · refine Ev.step (fun k => by rw [laws_toMatchS.l0]) ?_
      simp only [nat_nlt (Nat.le_refl _), if_false]
      exact Ev.const (by rw [← hm, fillTo_all])
    · intro i hi ih
      refine Ev.step (fun k => by rw [laws_toMatchS.l0]) ?_
      have e : (fillTo (l.map cv_Match) z48 i).length = l.length := by rw [fillTo_length _ _ _ (by omega), hm]
      simp only [nat_lt hi, nat_pos, if_true, rdl_Match, getD_of hi, wrap_succ (show i < 9223372036854775807 by omega), e, Int.toNat_natCast]
      refine Ev.bind (to_Match l[i] (h _ (List.getElem_mem _))) ?_
      have s := fillTo_set (l.map cv_Match) z48 i (by omega)
      rw [List.getElem_map] at s
      show Ev (fun k => laws_toMatchS.l0 k l ((fillTo (l.map cv_Match) z48 i).set i (cv_Match l[i])) ((i + 1 : Nat) : Int)) _
      rw [s]
      exact ih
  unfold laws_toMatchS.f
  refine Ev.ifp (by omega) (Ev.ifp (by simp; omega) ?_)
  have := key 0 (Nat.zero_le _)
  rw [fillTo_zero, hm] at this
  simp only [Int.toNat_natCast]
  exact this
theorem eq_Match (x : S48) (h : Bd_Match x) : Ev (fun k => laws_eqMatch.f x.f0 x.f1 x.f2 x.f0 x.f1 x.f2) true := by
  refine Ev.const ?_
  simp [laws_eqMatch.f]
theorem eqs_Match (l : List S48) (hl : l.length < 9223372036854775807) (h : ∀ x ∈ l, Bd_Match x) : Ev (fun k => laws_eqMatchS.f k l l) true := by
  have key : ∀ i, i ≤ l.length → Ev (fun k => laws_eqMatchS.l0 k l l (i : Int)) true := by
    refine from_index ?_ ?_
    · refine Ev.step (fun k => by rw [laws_eqMatchS.l0]) ?_
      simp only [nat_nlt (Nat.le_refl _), if_false]
      exact Ev.now _
    · intro i hi ih
      refine Ev.step (fun k => by rw [laws_eqMatchS.l0]) ?_
      simp only [nat_lt hi, nat_pos, if_true, rdi_Match, getD_of hi, wrap_succ (show i < 9223372036854775807 by omega)]
      refine Ev.bind (eq_Match l[i] (h _ (List.getElem_mem _))) (Ev.ifp rfl ?_)
      exact ih
  unfold laws_eqMatchS.f
  refine Ev.ifp rfl ?_
  exact key 0 (Nat.zero_le _)

theorem FnExactMatchesPut : laws_FnExactMatchesPut.Pure := by
  intro l hfit
  apply Ev.rounds
  unfold laws_FnExactMatchesPut.f
  obtain ⟨r, er, hr⟩ := szs_Match l hfit 1048576 (by omega) (by omega)
  refine Ev.bind er ?_
  rcases hr with hr | ⟨h0, _, hl, hin⟩
  · exact Ev.ifp (by omega) (Ev.now _)
  · refine Ev.ifn (by omega) ?_
    have hm : (l.map cv_Match).length = l.length := List.length_map _
    have hb := bdM_of (l.map cv_Match) (by omega) (cvbds_Match l hin)
    have T := tos_Match l hl hin
    refine Ev.bind T (Ev.bind (spec_MatchesPut_ev _ hb) (Ev.bind T (Ev.bind (impl_MatchesPut_ev _ hb) (Ev.ifp rfl ?_))))
    refine Ev.bind T (Ev.bind (eqs_Match _ (by omega) (cvbds_Match l hin)) ?_)
    exact Ev.ifp rfl (Ev.now _)

end Go.Proofs.Ytipbllegjcedgaa.Pure
