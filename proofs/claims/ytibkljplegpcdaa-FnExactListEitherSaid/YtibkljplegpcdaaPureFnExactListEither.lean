/- The program's ListEither returns the reference's list, for every two lists of numbers; what it returns is its own (marks laid into the arguments do not reach it); no condition. -/
import Derived.Test.YtibkljplegpcdaaQFnExactListEitherx4
import Derived.Test.YtibkljplegpcdaaWOwn
set_option linter.unusedVariables false
set_option linter.unusedSimpArgs false
namespace Go.Proofs.Ytibkljplegpcdaa.Pure
open Go.RowKit Go.Proofs.Ytibkljplegpcdaa.QFnExactListEither Go.Proofs.YtibkljplegpcdaaW.PrintWords Go.Proofs.YtibkljplegpcdaaW.PrintLast Go.Proofs.YtibkljplegpcdaaW.Own

theorem nat_lt {i n : Nat} (h : i < n) : ((i : Int) < (n : Int)) = True := by simp [h]
theorem nat_nlt {i n : Nat} (h : n ≤ i) : ((i : Int) < (n : Int)) = False := by simp [h]
theorem nat_pos (i : Nat) : (0 ≤ (i : Int)) = True := by simp
theorem wrap_succ {i : Nat} (h : i < 9223372036854775807) : wrap64 ((i : Int) + 1) = ((i + 1 : Nat) : Int) := by unfold wrap64; omega
theorem wrap_pred {i : Nat} (h : i < 9223372036854775807) : wrap64 ((i : Int) - 1) = (i : Int) - 1 := by unfold wrap64; omega
theorem wrap_sub {a : Int} {n : Nat} (h0 : 0 ≤ a) (h1 : a ≤ 9223372036854775807) (hn : n ≤ maxLen) : wrap64 (a - (n : Int)) = a - (n : Int) := by unfold wrap64; unfold maxLen at hn; omega
theorem rd_nat (l : List Int) (i : Nat) : rd l (i : Int) = l.getD i 0 := rfl
theorem getD_of {α : Type} {l : List α} {i : Nat} (h : i < l.length) (d : α) : l.getD i d = l[i] := by simp [List.getD, List.getElem?_eq_getElem h]
theorem drop_at {α : Type} {l : List α} {i : Nat} (h : i < l.length) : l.drop i = l[i] :: l.drop (i + 1) := List.drop_eq_getElem_cons h
theorem bt_nat (s : ByteArray) (i : Nat) (h : i < s.size) : bt s (i : Int) = ((s[i]'h).toNat : Int) := by
  unfold bt
  have : (i : Int).toNat = i := by omega
  simp [h]
/-- From an index on: at the end, and one round. -/
theorem from_index {P : Nat → Prop} {n : Nat} (h0 : P n) (h1 : ∀ i, i < n → P (i + 1) → P i) : ∀ i, i ≤ n → P i := by
  have key : ∀ d i, i + d = n → P i := by
    intro d
    induction d with
    | zero => intro i h; obtain rfl : i = n := by omega
              exact h0
    | succ d ih => intro i h; exact h1 i (by omega) (ih (i + 1) (by omega))
  intro i hi
  exact key (n - i) i (by omega)
/-- A row that is filled from the front. -/
def fillTo {α : Type} (xs : List α) (z : α) (i : Nat) : List α := xs.take i ++ List.replicate (xs.length - i) z
theorem fillTo_length {α : Type} (xs : List α) (z : α) (i : Nat) (h : i ≤ xs.length) : (fillTo xs z i).length = xs.length := by
  unfold fillTo; rw [List.length_append, List.length_take, List.length_replicate]; omega
theorem fillTo_zero {α : Type} (xs : List α) (z : α) : fillTo xs z 0 = List.replicate xs.length z := by simp [fillTo]
theorem fillTo_all {α : Type} (xs : List α) (z : α) : fillTo xs z xs.length = xs := by simp [fillTo]
theorem fillTo_set {α : Type} (xs : List α) (z : α) (i : Nat) (h : i < xs.length) : (fillTo xs z i).set i xs[i] = fillTo xs z (i + 1) := by
  unfold fillTo
  have hl : (xs.take i).length = i := by rw [List.length_take]; omega
  have e : xs.length - i = (xs.length - (i + 1)) + 1 := by omega
  rw [e, List.replicate_succ, List.set_append_right _ _ (by omega), hl, Nat.sub_self, List.set_cons_zero, List.take_succ_eq_append_getElem h, List.append_assoc]
  rfl
def lokP : Option Int → List Int → Bool
  | _, [] => true
  | p, x :: l => decide (0 ≤ x) && (match p with | none => true | some q => decide (q < x)) && lokP (some x) l
def lok (l : List Int) : Bool := lokP none l && decide (l.length ≤ 40)
def prevI (l : List Int) (i : Nat) : Option Int := if i = 0 then none else some (l.getD (i - 1) 0)
theorem rd_pred (l : List Int) (i : Nat) (h : 0 < i) : rd l ((i : Int) - 1) = l.getD (i - 1) 0 := by
  unfold rd
  congr 1
  omega
theorem lokP_cons (p : Option Int) (x : Int) (l : List Int) : lokP p (x :: l) = (decide (0 ≤ x) && (match p with | none => true | some q => decide (q < x)) && lokP (some x) l) := rfl
theorem prevI_succ (l : List Int) (i : Nat) (h : i < l.length) : prevI l (i + 1) = some l[i] := by
  unfold prevI
  rw [if_neg (by omega), Nat.add_sub_cancel, getD_of h]
theorem lokP_step (l : List Int) (i : Nat) (h : i < l.length) : lokP (prevI l i) (l.drop i) = (decide (0 ≤ l[i]) && (if 0 < i then decide ((l.getD (i - 1) 0) < l[i]) else true) && lokP (prevI l (i + 1)) (l.drop (i + 1))) := by
  rw [drop_at h, lokP_cons, prevI_succ l i h]
  by_cases hi : i = 0
  · subst hi; rfl
  · unfold prevI
    rw [if_neg hi, if_pos (by omega)]
def Srt (l : List Int) : Prop := l.Pairwise (· < ·)
theorem srt_cons {x : Int} {l : List Int} : Srt (x :: l) ↔ (∀ y ∈ l, x < y) ∧ Srt l := List.pairwise_cons
theorem lokP_srt : ∀ (l : List Int) (p : Option Int), lokP p l = true → Srt l ∧ (∀ x ∈ l, 0 ≤ x) ∧ (∀ q, p = some q → ∀ x ∈ l, q < x)
  | [], _, _ => ⟨List.Pairwise.nil, by simp, by simp⟩
  | x :: l, p, h => by
    rw [lokP_cons, Bool.and_eq_true, Bool.and_eq_true] at h
    obtain ⟨⟨h0, h1⟩, h2⟩ := h
    obtain ⟨a, b, c⟩ := lokP_srt l (some x) h2
    have h0 := of_decide_eq_true h0
    refine ⟨srt_cons.mpr ⟨c x rfl, a⟩, ?_, ?_⟩
    · intro y hy
      rcases List.mem_cons.mp hy with rfl | hy
      · exact h0
      · exact b y hy
    · rintro q rfl y hy
      have h1 : q < x := of_decide_eq_true h1
      rcases List.mem_cons.mp hy with rfl | hy
      · exact h1
      · have := c x rfl y hy; omega
theorem lok_srt {l : List Int} (h : lok l = true) : Srt l ∧ (∀ x ∈ l, 0 ≤ x) ∧ l.length ≤ 40 := by
  unfold lok at h
  rw [Bool.and_eq_true] at h
  exact ⟨(lokP_srt l none h.1).1, (lokP_srt l none h.1).2.1, of_decide_eq_true h.2⟩
theorem srt_lokP : ∀ (l : List Int) (p : Option Int), Srt l → (∀ x ∈ l, 0 ≤ x) → (∀ q, p = some q → ∀ x ∈ l, q < x) → lokP p l = true
  | [], _, _, _, _ => rfl
  | x :: l, p, h, h0, hp => by
    rw [lokP_cons, Bool.and_eq_true, Bool.and_eq_true]
    obtain ⟨h1, h2⟩ := srt_cons.mp h
    refine ⟨⟨decide_eq_true (h0 x List.mem_cons_self), ?_⟩, srt_lokP l (some x) h2 (fun y hy => h0 y (List.mem_cons_of_mem _ hy)) ?_⟩
    · cases p with
      | none => rfl
      | some q => exact decide_eq_true (hp q rfl x List.mem_cons_self)
    · rintro q e y hy
      obtain rfl := Option.some.inj e
      exact h1 y hy
theorem srt_ext : ∀ (a b : List Int), Srt a → Srt b → (∀ x, x ∈ a ↔ x ∈ b) → a = b
  | [], [], _, _, _ => rfl
  | [], y :: b, _, _, h => absurd ((h y).mpr List.mem_cons_self) (by simp)
  | x :: a, [], _, _, h => absurd ((h x).mp List.mem_cons_self) (by simp)
  | x :: a, y :: b, ha, hb, h => by
    obtain ⟨a1, a2⟩ := srt_cons.mp ha
    obtain ⟨b1, b2⟩ := srt_cons.mp hb
    have e : x = y := by
      rcases List.mem_cons.mp ((h x).mp List.mem_cons_self) with e | e
      · exact e
      · rcases List.mem_cons.mp ((h y).mpr List.mem_cons_self) with e' | e'
        · exact e'.symm
        · have := a1 y e'; have := b1 x e; omega
    subst e
    rw [srt_ext a b a2 b2]
    intro z
    constructor
    · intro hz
      rcases List.mem_cons.mp ((h z).mp (List.mem_cons_of_mem _ hz)) with e | e
      · have := a1 z hz; omega
      · exact e
    · intro hz
      rcases List.mem_cons.mp ((h z).mpr (List.mem_cons_of_mem _ hz)) with e | e
      · have := b1 z hz; omega
      · exact e
theorem srt_filter {l : List Int} (h : Srt l) (p : Int → Bool) : Srt (l.filter p) := List.Pairwise.filter _ h
theorem iteL_mem {c : Bool} {x y : Int} : x ∈ (if c = true then [y] else []) ↔ x = y ∧ c = true := by cases c <;> simp
theorem mem_mergeL (K : Bool → Bool → Bool) (a b : List Int) (ha : Srt a) (hb : Srt b) : ∀ x, x ∈ mergeL K a b ↔ (x ∈ a ∨ x ∈ b) ∧ K (decide (x ∈ a)) (decide (x ∈ b)) = true := by
  induction a, b using mergeL.induct with
  | case1 => intro x; rw [mergeL]; simp
  | case2 y la ih =>
    intro x
    rw [mergeL, List.mem_append, iteL_mem, ih (srt_cons.mp ha).2 hb]
    by_cases e : x = y
    · subst e
      have : x ∉ la := fun hx => by have := (srt_cons.mp ha).1 x hx; omega
      simp [this]
    · simp [e]
  | case3 y lb ih =>
    intro x
    rw [mergeL, List.mem_append, iteL_mem, ih ha (srt_cons.mp hb).2]
    by_cases e : x = y
    · subst e
      have : x ∉ lb := fun hx => by have := (srt_cons.mp hb).1 x hx; omega
      simp [this]
    · simp [e]
  | case4 y la z lb hlt ih =>
    intro x
    rw [mergeL, if_pos hlt, List.mem_append, iteL_mem, ih (srt_cons.mp ha).2 hb]
    by_cases e : x = y
    · subst e
      have h1 : x ∉ la := fun hx => by have := (srt_cons.mp ha).1 x hx; omega
      have h2 : x ∉ lb := fun hx => by have := (srt_cons.mp hb).1 x hx; omega
      have h3 : ¬ x = z := by omega
      simp [h1, h2, h3]
    · simp [e]
  | case5 y la z lb hlt hgt ih =>
    intro x
    rw [mergeL, if_neg hlt, if_pos hgt, List.mem_append, iteL_mem, ih ha (srt_cons.mp hb).2]
    by_cases e : x = z
    · subst e
      have h1 : x ∉ la := fun hx => by have := (srt_cons.mp ha).1 x hx; omega
      have h2 : x ∉ lb := fun hx => by have := (srt_cons.mp hb).1 x hx; omega
      have h3 : ¬ x = y := by omega
      simp [h1, h2, h3]
    · simp [e]
  | case6 y la z lb hlt hgt ih =>
    intro x
    rw [mergeL, if_neg hlt, if_neg hgt, List.mem_append, iteL_mem, ih (srt_cons.mp ha).2 (srt_cons.mp hb).2]
    obtain rfl : y = z := by omega
    by_cases e : x = y
    · subst e
      have h1 : x ∉ la := fun hx => by have := (srt_cons.mp ha).1 x hx; omega
      have h2 : x ∉ lb := fun hx => by have := (srt_cons.mp hb).1 x hx; omega
      simp [h1, h2]
    · simp [e]
theorem srt_ite {c : Bool} {y : Int} {l : List Int} (h : Srt l) (hy : ∀ x ∈ l, y < x) : Srt ((if c = true then [y] else []) ++ l) := by
  cases c
  · exact h
  · exact srt_cons.mpr ⟨hy, h⟩
theorem srt_mergeL (K : Bool → Bool → Bool) (a b : List Int) (ha : Srt a) (hb : Srt b) : Srt (mergeL K a b) := by
  induction a, b using mergeL.induct with
  | case1 => rw [mergeL]; exact List.Pairwise.nil
  | case2 y la ih =>
    rw [mergeL]
    refine srt_ite (ih (srt_cons.mp ha).2 hb) fun x hx => ?_
    rcases ((mem_mergeL K _ _ (srt_cons.mp ha).2 hb x).mp hx).1 with h | h
    · exact (srt_cons.mp ha).1 x h
    · simp at h
  | case3 y lb ih =>
    rw [mergeL]
    refine srt_ite (ih ha (srt_cons.mp hb).2) fun x hx => ?_
    rcases ((mem_mergeL K _ _ ha (srt_cons.mp hb).2 x).mp hx).1 with h | h
    · simp at h
    · exact (srt_cons.mp hb).1 x h
  | case4 y la z lb hlt ih =>
    rw [mergeL, if_pos hlt]
    refine srt_ite (ih (srt_cons.mp ha).2 hb) fun x hx => ?_
    rcases ((mem_mergeL K _ _ (srt_cons.mp ha).2 hb x).mp hx).1 with h | h
    · exact (srt_cons.mp ha).1 x h
    · rcases List.mem_cons.mp h with rfl | h
      · exact hlt
      · have := (srt_cons.mp hb).1 x h; omega
  | case5 y la z lb hlt hgt ih =>
    rw [mergeL, if_neg hlt, if_pos hgt]
    refine srt_ite (ih ha (srt_cons.mp hb).2) fun x hx => ?_
    rcases ((mem_mergeL K _ _ ha (srt_cons.mp hb).2 x).mp hx).1 with h | h
    · rcases List.mem_cons.mp h with rfl | h
      · exact hgt
      · have := (srt_cons.mp ha).1 x h; omega
    · exact (srt_cons.mp hb).1 x h
  | case6 y la z lb hlt hgt ih =>
    rw [mergeL, if_neg hlt, if_neg hgt]
    refine srt_ite (ih (srt_cons.mp ha).2 (srt_cons.mp hb).2) fun x hx => ?_
    rcases ((mem_mergeL K _ _ (srt_cons.mp ha).2 (srt_cons.mp hb).2 x).mp hx).1 with h | h
    · have := (srt_cons.mp ha).1 x h; omega
    · exact (srt_cons.mp hb).1 x h
def bothV (a b : List Int) : List Int := if (lok a && lok b) = true then a.filter (fun x => decide (x ∈ b)) else []
def lessV (a b : List Int) : List Int := if (lok a && lok b) = true then a.filter (fun x => !decide (x ∈ b)) else []
theorem merge_both {a b : List Int} (ha : Srt a) (hb : Srt b) : mergeL (fun x y => x && y) a b = a.filter (fun x => decide (x ∈ b)) := by
  refine srt_ext _ _ (srt_mergeL _ _ _ ha hb) (srt_filter ha _) fun x => ?_
  rw [mem_mergeL _ _ _ ha hb, List.mem_filter]
  by_cases h1 : x ∈ a <;> by_cases h2 : x ∈ b <;> simp [h1, h2]
theorem merge_less {a b : List Int} (ha : Srt a) (hb : Srt b) : mergeL (fun x y => x && !y) a b = a.filter (fun x => !decide (x ∈ b)) := by
  refine srt_ext _ _ (srt_mergeL _ _ _ ha hb) (srt_filter ha _) fun x => ?_
  rw [mem_mergeL _ _ _ ha hb, List.mem_filter]
  by_cases h1 : x ∈ a <;> by_cases h2 : x ∈ b <;> simp [h1, h2]
theorem nats_lt {a b : Nat} (h : (a : Int) < (b : Int)) : a < b := by omega
theorem spec_ListOk_ev (l : List Int) (hl : l.length < 9223372036854775807) : Ev (fun k => spec_ListOk.f k l) (lok l) := by
  have key : ∀ i, i ≤ l.length → Ev (fun k => spec_ListOk.l0 k l (i : Int)) (lokP (prevI l i) (l.drop i) && decide (l.length ≤ 40)) := by
    refine from_index ?_ ?_
    · refine Ev.step (fun k => by rw [spec_ListOk.l0]) ?_
      simp only [nat_nlt (Nat.le_refl _), if_false]
      refine Ev.const ?_
      rw [List.drop_length]
      simp only [lokP, Bool.true_and]
      congr 1
      exact decide_eq_decide.mpr (by omega)
    · intro i hi ih
      refine Ev.step (fun k => by rw [spec_ListOk.l0]) ?_
      rw [lokP_step l i hi]
      simp only [nat_lt hi, nat_pos, if_true, rd_nat, getD_of hi, wrap_succ (show i < 9223372036854775807 by omega), wrap_pred (show i < 9223372036854775807 by omega)]
      by_cases a : l[i] < 0
      · have a' : ¬ 0 ≤ l[i] := by omega
        simp only [a, if_true, a', decide_false, Bool.false_and]
        exact Ev.now _
      · have a' : 0 ≤ l[i] := by omega
        simp only [a, if_false, a', decide_true, Bool.true_and]
        by_cases c : 0 < i
        · have c1 : ((i : Int) > 0) = True := by simp [c]
          have c2 : (0 ≤ (i : Int) - 1) = True := by simp; omega
          have c3 : ((i : Int) - 1 < (l.length : Int)) = True := by simp; omega
          simp only [c1, c2, c3, if_true, rd_pred l i c, if_pos c]
          by_cases d : (l.getD (i - 1) 0) < l[i]
          · simp only [ge_iff_le, Int.not_le.mpr d, if_false, d, decide_true, Bool.true_and]
            exact ih
          · simp only [ge_iff_le, Int.not_lt.mp d, if_true, d, decide_false, Bool.false_and]
            exact Ev.now _
        · have c1 : ((i : Int) > 0) = False := by simp; omega
          simp only [c1, if_false, if_neg c, Bool.true_and]
          exact ih
  unfold spec_ListOk.f
  exact key 0 (Nat.zero_le _)
def eitherV (a b : List Int) : List Int := if (lok a && lok b) = true then mergeL (fun x y => x || y) a b else []
theorem srt_put {l : List Int} {n : Int} {i : Nat} (h : Srt l) (h1 : ∀ x ∈ l.take i, x < n) (h2 : ∀ x ∈ l.drop i, n < x) : Srt (l.take i ++ [n] ++ l.drop i) := by
  have hs : (l.take i ++ l.drop i).Pairwise (· < ·) := by rw [List.take_append_drop]; exact h
  obtain ⟨a, b, c⟩ := List.pairwise_append.mp hs
  rw [List.append_assoc]
  refine List.pairwise_append.mpr ⟨a, srt_cons.mpr ⟨h2, b⟩, ?_⟩
  intro x hx y hy
  rcases List.mem_cons.mp hy with rfl | hy
  · exact h1 x hx
  · exact c x hx y hy
theorem mem_put {l : List Int} {n x : Int} {i : Nat} : x ∈ l.take i ++ [n] ++ l.drop i ↔ x = n ∨ x ∈ l := by
  conv => rhs; rw [← List.take_append_drop i l]
  simp only [List.mem_append, List.mem_singleton]
  constructor
  · rintro ((h | h) | h)
    · exact Or.inr (Or.inl h)
    · exact Or.inl h
    · exact Or.inr (Or.inr h)
  · rintro (h | h | h)
    · exact Or.inl (Or.inr h)
    · exact Or.inl (Or.inl h)
    · exact Or.inr h
theorem spec_l4Put_ev (l : List Int) (n : Int) (hl : l.length ≤ 1048576) (hs : Srt l) : ∃ r, Ev (fun k => spec_l4Put.f k l n) r ∧ Srt r ∧ (∀ x, x ∈ r ↔ x = n ∨ x ∈ l) ∧ r.length ≤ l.length + 1 := by
  have key : ∀ i, i ≤ l.length → (∀ x ∈ l.take i, x < n) → ∃ r, Ev (fun k => spec_l4Put.l0 k l n (i : Int)) r ∧ Srt r ∧ (∀ x, x ∈ r ↔ x = n ∨ x ∈ l) ∧ r.length ≤ l.length + 1 := by
    refine from_index ?_ ?_
    · intro h
      refine ⟨l.take l.length ++ [n] ++ l.drop l.length, ?_, srt_put hs h (by simp), fun x => mem_put, by simp⟩
      refine Ev.step (fun k => by rw [spec_l4Put.l0]) ?_
      refine Ev.ifn (by omega) (Ev.bind (Ev.some_ rfl) (Ev.ifp (by omega) (Ev.ifp (by omega) ?_)))
      rw [Int.toNat_natCast]
      refine Ev.ifp (by simp; omega) (Ev.bind (Ev.some_ rfl) (Ev.bind (Ev.some_ rfl) (Ev.ifp (by simp; omega) (Ev.bind (Ev.some_ rfl) (Ev.ifp (by simp; omega) (Ev.now _))))))
    · intro i hi ih h
      by_cases c : l[i] < n
      · obtain ⟨r, e, h1⟩ := ih (by
          intro x hx
          rw [List.take_succ_eq_append_getElem hi] at hx
          rcases List.mem_append.mp hx with hx | hx
          · exact h x hx
          · rw [List.mem_singleton.mp hx]; exact c)
        refine ⟨r, ?_, h1⟩
        refine Ev.step (fun k => by rw [spec_l4Put.l0]) ?_
        refine Ev.ifp (by omega) (Ev.ifp (by omega) ?_)
        rw [rd_nat, getD_of hi, wrap_succ (show i < 9223372036854775807 by omega)]
        exact Ev.ifp c e
      · by_cases d : l[i] = n
        · refine ⟨l, ?_, hs, fun x => ⟨Or.inr, fun hx => hx.elim (fun e => by rw [e, ← d]; exact List.getElem_mem hi) id⟩, by omega⟩
          refine Ev.step (fun k => by rw [spec_l4Put.l0]) ?_
          refine Ev.ifp (by omega) (Ev.ifp (by omega) ?_)
          rw [rd_nat, getD_of hi]
          exact Ev.ifn c (Ev.ifp d (Ev.now _))
        · have h2 : ∀ x ∈ l.drop i, n < x := by
            intro x hx
            have hd : Srt (l.drop i) := List.Pairwise.drop hs
            rw [drop_at hi] at hx hd
            rcases List.mem_cons.mp hx with rfl | hx
            · omega
            · have := (srt_cons.mp hd).1 x hx; omega
          refine ⟨l.take i ++ [n] ++ l.drop i, ?_, srt_put hs h h2, fun x => mem_put, by simp; omega⟩
          refine Ev.step (fun k => by rw [spec_l4Put.l0]) ?_
          refine Ev.ifp (by omega) (Ev.ifp (by omega) ?_)
          rw [rd_nat, getD_of hi]
          refine Ev.ifn c (Ev.ifn d (Ev.bind (Ev.some_ rfl) (Ev.ifp (by omega) ?_)))
          rw [Int.toNat_natCast]
          refine Ev.ifp (by simp; omega) (Ev.bind (Ev.some_ rfl) (Ev.bind (Ev.some_ rfl) (Ev.ifp (by simp; omega) (Ev.bind (Ev.some_ rfl) (Ev.ifp (by simp; omega) (Ev.now _))))))
  unfold spec_l4Put.f
  exact key 0 (Nat.zero_le _) (by simp)
theorem spec_ListEither_l0 (l1 : List Int) (h1 : l1.length ≤ 1000) : ∀ i, i ≤ l1.length → ∀ o : List Int, Srt o → o.length ≤ 1000 + i → ∃ r, Ev (fun k => spec_ListEither.l0 k l1 o (i : Int)) r ∧ Srt r ∧ (∀ x, x ∈ r ↔ x ∈ o ∨ x ∈ l1.drop i) := by
  refine from_index ?_ ?_
  · intro o ho hl
    refine ⟨o, ?_, ho, by simp⟩
    refine Ev.step (fun k => by rw [spec_ListEither.l0]) ?_
    exact Ev.ifn (by omega) (Ev.now _)
  · intro i hi ih o ho hl
    obtain ⟨r, e, h2, h3, h4⟩ := spec_l4Put_ev o l1[i] (by omega) ho
    obtain ⟨q, e2, h5, h6⟩ := ih r h2 (by omega)
    refine ⟨q, ?_, h5, ?_⟩
    · refine Ev.step (fun k => by rw [spec_ListEither.l0]) ?_
      refine Ev.ifp (by omega) (Ev.ifp (by omega) ?_)
      rw [rd_nat, getD_of hi, wrap_succ (show i < 9223372036854775807 by omega)]
      exact Ev.bind e e2
    · intro x
      rw [h6, h3, drop_at hi, List.mem_cons]
      constructor
      · rintro ((h | h) | h)
        · exact Or.inr (Or.inl h)
        · exact Or.inl h
        · exact Or.inr (Or.inr h)
      · rintro (h | h | h)
        · exact Or.inl (Or.inr h)
        · exact Or.inl (Or.inl h)
        · exact Or.inr h
theorem spec_ListEither_ev (l0 l1 : List Int) (h0 : l0.length ≤ 1048576) (h1 : l1.length ≤ 1048576) : Ev (fun k => spec_ListEither.f k l0 l1) (eitherV l0 l1) := by
  unfold spec_ListEither.f eitherV
  refine Ev.bind (spec_ListOk_ev l0 (by omega)) ?_
  cases a : lok l0
  · refine Ev.ifn (by decide) ?_
    refine Ev.step (fun k => by rw [spec_ListEither.j0]) ?_
    exact Ev.ifp rfl (Ev.now _)
  · refine Ev.ifp rfl ?_
    refine Ev.bind (spec_ListOk_ev l1 (by omega)) ?_
    refine Ev.step (fun k => by rw [spec_ListEither.j0]) ?_
    cases b : lok l1
    · exact Ev.ifp rfl (Ev.now _)
    · refine Ev.ifn (by decide) ?_
      obtain ⟨a1, a2, a3⟩ := lok_srt a
      obtain ⟨b1, b2, b3⟩ := lok_srt b
      refine Ev.bind (Ev.some_ rfl) (Ev.ifp (by simp; omega) ?_)
      obtain ⟨r, e, h2, h3⟩ := spec_ListEither_l0 l1 (by omega) 0 (Nat.zero_le _) ([] ++ l0) (by simpa using a1) (by simp; omega)
      have er : r = mergeL (fun x y => x || y) l0 l1 := by
        refine srt_ext _ _ h2 (srt_mergeL _ _ _ a1 b1) fun x => ?_
        rw [h3, mem_mergeL _ _ _ a1 b1]
        by_cases p : x ∈ l0 <;> by_cases q : x ∈ l1 <;> simp [p, q]
      rw [← er]
      exact e
theorem impl_ListOk_ev (l : List Int) (hl : l.length < 9223372036854775807) : Ev (fun k => impl_ListOk.f k l) (lok l) := by
  have key : ∀ i, i ≤ l.length → Ev (fun k => impl_ListOk.l0 k l l (l.length : Int) (i : Int)) (lokP (prevI l i) (l.drop i) && decide (l.length ≤ 40)) := by
    refine from_index ?_ ?_
    · refine Ev.step (fun k => by rw [impl_ListOk.l0]) ?_
      simp only [nat_nlt (Nat.le_refl _), if_false]
      refine Ev.const ?_
      rw [List.drop_length]
      simp only [lokP, Bool.true_and]
      congr 1
      exact decide_eq_decide.mpr (by omega)
    · intro i hi ih
      refine Ev.step (fun k => by rw [impl_ListOk.l0]) ?_
      rw [lokP_step l i hi]
      simp only [nat_lt hi, nat_pos, if_true, rd_nat, getD_of hi, wrap_succ (show i < 9223372036854775807 by omega), wrap_pred (show i < 9223372036854775807 by omega)]
      by_cases a : l[i] < 0
      · have a' : ¬ 0 ≤ l[i] := by omega
        simp only [a, if_true, a', decide_false, Bool.false_and]
        exact Ev.now _
      · have a' : 0 ≤ l[i] := by omega
        simp only [a, if_false, a', decide_true, Bool.true_and]
        by_cases c : 0 < i
        · have c1 : ((i : Int) > 0) = True := by simp [c]
          have c2 : (0 ≤ (i : Int) - 1) = True := by simp; omega
          have c3 : ((i : Int) - 1 < (l.length : Int)) = True := by simp; omega
          simp only [c1, c2, c3, if_true, rd_pred l i c, if_pos c]
          by_cases d : (l.getD (i - 1) 0) < l[i]
          · simp only [ge_iff_le, Int.not_le.mpr d, if_false, d, decide_true, Bool.true_and]
            exact ih
          · simp only [ge_iff_le, Int.not_lt.mp d, if_true, d, decide_false, Bool.false_and]
            exact Ev.now _
        · have c1 : ((i : Int) > 0) = False := by simp; omega
          simp only [c1, if_false, if_neg c, Bool.true_and]
          exact ih
  unfold impl_ListOk.f
  exact key 0 (Nat.zero_le _)
theorem impl_merged_ev (K : Bool → Bool → Bool) (l0 l1 : List Int) (h0 : l0.length ≤ 1048576) (h1 : l1.length ≤ 1048576) : Ev (fun k => impl_merged.f k K l0 l1) (if (lok l0 && lok l1) = true then mergeL K l0 l1 else []) := by
  unfold impl_merged.f
  refine Ev.bind (impl_ListOk_ev l0 (by omega)) ?_
  refine Ev.bind (impl_ListOk_ev l1 (by omega)) ?_
  by_cases c : (lok l0 && lok l1) = true
  · rw [if_pos c, if_pos c]
    rw [Bool.and_eq_true] at c
    have := (lok_srt c.1).2.2
    have := (lok_srt c.2).2.2
    exact Ev.ifp (by omega) (Ev.now _)
  · rw [if_neg c, if_neg c]
    exact Ev.now _
theorem impl_ListEither_ev (l0 l1 : List Int) (h0 : l0.length ≤ 1048576) (h1 : l1.length ≤ 1048576) : Ev (fun k => impl_ListEither.f k l0 l1) (if (lok l0 && lok l1) = true then mergeL (fun x y => x || y) l0 l1 else []) := impl_merged_ev (fun x y => x || y) l0 l1 h0 h1
theorem len_mergeL (K : Bool → Bool → Bool) (a b : List Int) : (mergeL K a b).length ≤ a.length + b.length := by
  have hi : ∀ (c : Bool) (y : Int), (if c = true then [y] else []).length ≤ 1 := by intro c y; cases c <;> simp
  induction a, b using mergeL.induct with
  | case1 => rw [mergeL]; simp
  | case2 y la ih => rw [mergeL, List.length_append]; have := hi (K true false) y; simp only [List.length_cons, List.length_nil] at *; omega
  | case3 y lb ih => rw [mergeL, List.length_append]; have := hi (K false true) y; simp only [List.length_cons, List.length_nil] at *; omega
  | case4 y la z lb hlt ih => rw [mergeL, if_pos hlt, List.length_append]; have := hi (K true false) y; simp only [List.length_cons] at *; omega
  | case5 y la z lb hlt hgt ih => rw [mergeL, if_neg hlt, if_pos hgt, List.length_append]; have := hi (K false true) z; simp only [List.length_cons] at *; omega
  | case6 y la z lb hlt hgt ih => rw [mergeL, if_neg hlt, if_neg hgt, List.length_append]; have := hi (K true true) z; simp only [List.length_cons] at *; omega
theorem eitherM_len (a b : List Int) : (if (lok a && lok b) = true then mergeL (fun x y => x || y) a b else []).length ≤ a.length + b.length := by
  split
  · exact len_mergeL _ _ _
  · exact Nat.zero_le _
theorem laws_toIntS_ev (l : List Int) (hl : l.length ≤ 1048576) : Ev (fun k => laws_toIntS.f k l) l := by
  have key : ∀ i, i ≤ l.length → Ev (fun k => laws_toIntS.l0 k l (fillTo l 0 i) (i : Int)) l := by
    refine from_index ?_ ?_
    · refine Ev.step (fun k => by rw [laws_toIntS.l0]) ?_
      simp only [nat_nlt (Nat.le_refl _), if_false]
      exact Ev.const (by rw [fillTo_all])
    · intro i hi ih
      refine Ev.step (fun k => by rw [laws_toIntS.l0]) ?_
      have e : (fillTo l 0 i).length = l.length := fillTo_length _ _ _ (by omega)
      simp only [nat_lt hi, nat_pos, if_true, rd_nat, getD_of hi, wrap_succ (show i < 9223372036854775807 by omega), e, Int.toNat_natCast, fillTo_set l 0 i hi]
      exact ih
  unfold laws_toIntS.f
  have c : (Int.toNat (l.length : Int) ≤ 35184372088832) = True := by simp; omega
  simp only [nat_pos, if_true, c]
  have := key 0 (Nat.zero_le _)
  rw [fillTo_zero] at this
  simp only [Int.toNat_natCast]
  exact this
theorem laws_eqIntS_refl (l : List Int) (hl : l.length < 9223372036854775807) : Ev (fun k => laws_eqIntS.f k l l) true := by
  have key : ∀ i, i ≤ l.length → Ev (fun k => laws_eqIntS.l0 k l l (i : Int)) true := by
    refine from_index ?_ ?_
    · refine Ev.step (fun k => by rw [laws_eqIntS.l0]) ?_
      simp only [nat_nlt (Nat.le_refl _), if_false]
      exact Ev.now _
    · intro i hi ih
      refine Ev.step (fun k => by rw [laws_eqIntS.l0]) ?_
      simp only [nat_lt hi, nat_pos, if_true, wrap_succ (show i < 9223372036854775807 by omega)]
      exact ih
  unfold laws_eqIntS.f
  simp only [if_true]
  exact key 0 (Nat.zero_le _)
def cnt (a : Int) (n : Nat) : List Int := (List.range n).map (fun j : Nat => a + (j : Int))
theorem cnt_length (a : Int) (n : Nat) : (cnt a n).length = n := by simp [cnt]
theorem cnt_succ (a : Int) (n : Nat) : cnt a (n + 1) = cnt a n ++ [a + (n : Int)] := by simp [cnt, List.range_succ]
theorem cnt_get (a : Int) (n i : Nat) (h : i < n) : (cnt a n).getD i 0 = a + (i : Int) := by simp [cnt, List.getD, h]
theorem markInt_ev (l : List Int) (a : Int) (hl : l.length ≤ 10000000) (ha : 0 ≤ a ∧ a ≤ 1000000000) : Ev (fun k => laws_markIntS.f k l a) (a + (l.length : Int), cnt a l.length) := by
  have key : ∀ i, i ≤ l.length → Ev (fun k => laws_markIntS.l0 k (cnt a i ++ l.drop i) (a + (i : Int)) (i : Int)) (a + (l.length : Int), cnt a l.length) := by
    refine from_index ?_ ?_
    · refine Ev.step (fun k => by rw [laws_markIntS.l0]) ?_
      rw [List.drop_length, List.append_nil]
      refine Ev.ifn (by rw [cnt_length]; omega) (Ev.now _)
    · intro i hi ih
      refine Ev.step (fun k => by rw [laws_markIntS.l0]) ?_
      have e : (cnt a i ++ l.drop i).length = l.length := by rw [List.length_append, cnt_length, List.length_drop]; omega
      refine Ev.ifp (by rw [e]; omega) (Ev.ifp (by omega) ?_)
      rw [wrap_succ (show i < 9223372036854775807 by omega), wrap_in (show -9223372036854775808 ≤ a + (i : Int) + 1 by omega) (by omega)]
      have e2 : (cnt a i ++ l.drop i).set (i : Int).toNat (a + (i : Int)) = cnt a (i + 1) ++ l.drop (i + 1) := by
        rw [Int.toNat_natCast, List.set_append_right _ _ (by rw [cnt_length]; exact Nat.le_refl _), cnt_length, Nat.sub_self, drop_at hi, List.set_cons_zero, cnt_succ, List.append_assoc]
        rfl
      rw [e2]
      have e3 : a + (i : Int) + 1 = a + ((i + 1 : Nat) : Int) := by omega
      rw [e3]
      exact ih
  unfold laws_markIntS.f
  have := key 0 (Nat.zero_le _)
  simp only [cnt, List.range_zero, List.map_nil, List.nil_append, List.drop_zero] at this
  have e : a + ((0 : Nat) : Int) = a := by simp
  rw [e] at this
  exact this
theorem heldInt_ev (n : Nat) (a : Int) (hn : n ≤ 10000000) (ha : 0 ≤ a ∧ a ≤ 1000000000) : Ev (fun k => laws_heldIntS.f k (cnt a n) a) (a + (n : Int)) := by
  have key : ∀ i, i ≤ n → Ev (fun k => laws_heldIntS.l0 k (cnt a n) (a + (i : Int)) (i : Int)) (a + (n : Int)) := by
    refine from_index ?_ ?_
    · refine Ev.step (fun k => by rw [laws_heldIntS.l0]) ?_
      exact Ev.ifn (by rw [cnt_length]; omega) (Ev.now _)
    · intro i hi ih
      refine Ev.step (fun k => by rw [laws_heldIntS.l0]) ?_
      refine Ev.ifp (by rw [cnt_length]; omega) (Ev.ifp (by omega) ?_)
      rw [rd_nat, cnt_get a n i hi]
      refine Ev.ifp rfl ?_
      rw [wrap_succ (show i < 9223372036854775807 by omega), wrap_in (show -9223372036854775808 ≤ a + (i : Int) + 1 by omega) (by omega)]
      have e3 : a + (i : Int) + 1 = a + ((i + 1 : Nat) : Int) := by omega
      rw [e3]
      exact ih
  unfold laws_heldIntS.f
  have := key 0 (Nat.zero_le _)
  have e : a + ((0 : Nat) : Int) = a := by simp
  rw [e] at this
  exact this

theorem eitherV_len (a b : List Int) : (eitherV a b).length ≤ a.length + b.length := eitherM_len a b
theorem FnExactListEither : laws_FnExactListEither.Pure := by
  intro l0 l1 _ _ _ _ _ _
  apply Ev.rounds
  unfold laws_FnExactListEither.f
  by_cases c : (l0.length : Int) > 1048576
  · exact Ev.ifp c (Ev.now _)
  refine Ev.ifn c ?_
  by_cases d : (l1.length : Int) > 1048576
  · exact Ev.ifp d (Ev.now _)
  refine Ev.ifn d ?_
  have h0 : l0.length ≤ 1048576 := by omega
  have h1 : l1.length ≤ 1048576 := by omega
  have hv := eitherV_len l0 l1
  have T0 := laws_toIntS_ev l0 h0
  have T1 := laws_toIntS_ev l1 h1
  have RV := laws_eqIntS_refl (eitherV l0 l1) (by omega)
  refine Ev.bind T0 (Ev.bind T1 (Ev.bind (spec_ListEither_ev l0 l1 h0 h1) (Ev.bind T0 (Ev.bind T1 (Ev.bind (impl_ListEither_ev l0 l1 h0 h1) (Ev.bind RV ?_))))))
  refine Ev.ifp rfl (Ev.bind T0 (Ev.bind (laws_eqIntS_refl l0 (by omega)) (Ev.ifp rfl (Ev.bind T1 (Ev.bind (laws_eqIntS_refl l1 (by omega)) (Ev.ifp rfl ?_))))))
  refine Ev.bind (markInt_ev l0 1 (by omega) (by omega)) (Ev.bind (markInt_ev l1 (1 + (l0.length : Int)) (by omega) (by omega)) ?_)
  refine Ev.ifn (by simp only; omega) (Ev.bind RV ?_)
  refine Ev.step (fun k => by rw [laws_FnExactListEither.j0]) ?_
  refine Ev.ifn (by decide) ?_
  have hh := heldInt_ev (eitherV l0 l1).length 1 (by omega) (by omega)
  refine Ev.bind (markInt_ev (eitherV l0 l1) 1 (by omega) (by omega)) (Ev.bind hh ?_)
  refine Ev.ifn (by omega) (Ev.ifp rfl (Ev.bind T0 (Ev.bind T1 (Ev.bind (impl_ListEither_ev l0 l1 h0 h1) (Ev.bind RV (Ev.ifp rfl (Ev.bind hh ?_)))))))
  exact Ev.ifn (by omega) (Ev.ifp rfl (Ev.now _))

end Go.Proofs.Ytibkljplegpcdaa.Pure
