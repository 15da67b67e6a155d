/- ListEither is the reference's list both ways round, ascending, of what is in either, and as long as both lists without what is in both, for the lists that are drawn; no condition. -/
import Derived.Test.YtibkljplegpcdaaQFnListEitherx5
import Derived.Test.YtibkljplegpcdaaWOwn
set_option linter.unusedVariables false
set_option linter.unusedSimpArgs false
namespace Go.Proofs.Ytibkljplegpcdaa.Pure
open Go.RowKit Go.Proofs.Ytibkljplegpcdaa.QFnListEither Go.Proofs.YtibkljplegpcdaaW.PrintWords Go.Proofs.YtibkljplegpcdaaW.PrintLast Go.Proofs.YtibkljplegpcdaaW.Own

theorem nat_lt {i n : Nat} (h : i < n) : ((i : Int) < (n : Int)) = True := by simp [h]
theorem nat_nlt {i n : Nat} (h : n ≤ i) : ((i : Int) < (n : Int)) = False := by simp [h]
theorem nat_pos (i : Nat) : (0 ≤ (i : Int)) = True := by simp
theorem wrap_succ {i : Nat} (h : i < 9223372036854775807) : wrap64 ((i : Int) + 1) = ((i + 1 : Nat) : Int) := by unfold wrap64; omega
theorem wrap_pred {i : Nat} (h : i < 9223372036854775807) : wrap64 ((i : Int) - 1) = (i : Int) - 1 := by unfold wrap64; omega
theorem wrap_sub {a : Int} {n : Nat} (h0 : 0 ≤ a) (h1 : a ≤ 9223372036854775807) (hn : n ≤ maxLen) : wrap64 (a - (n : Int)) = a - (n : Int) := by unfold wrap64; unfold maxLen at hn; omega
theorem rd_nat (l : List Int) (i : Nat) : rd l (i : Int) = l.getD i 0 := rfl
theorem getD_of {α : Type} {l : List α} {i : Nat} (h : i < l.length) (d : α) : l.getD i d = l[i] := by simp [List.getD, List.getElem?_eq_getElem h]
theorem drop_at {α : Type} {l : List α} {i : Nat} (h : i < l.length) : l.drop i = l[i] :: l.drop (i + 1) := List.drop_eq_getElem_cons h
theorem bt_nat (s : ByteArray) (i : Nat) (h : i < s.size) : bt s (i : Int) = ((s[i]'h).toNat : Int) := by
  unfold bt
  have : (i : Int).toNat = i := by omega
  simp [h]
/-- From an index on: at the end, and one round. -/
theorem from_index {P : Nat → Prop} {n : Nat} (h0 : P n) (h1 : ∀ i, i < n → P (i + 1) → P i) : ∀ i, i ≤ n → P i := by
  have key : ∀ d i, i + d = n → P i := by
    intro d
    induction d with
    | zero => intro i h; obtain rfl : i = n := by omega
              exact h0
    | succ d ih => intro i h; exact h1 i (by omega) (ih (i + 1) (by omega))
  intro i hi
  exact key (n - i) i (by omega)
/-- A row that is filled from the front. -/
def fillTo {α : Type} (xs : List α) (z : α) (i : Nat) : List α := xs.take i ++ List.replicate (xs.length - i) z
theorem fillTo_length {α : Type} (xs : List α) (z : α) (i : Nat) (h : i ≤ xs.length) : (fillTo xs z i).length = xs.length := by
  unfold fillTo; rw [List.length_append, List.length_take, List.length_replicate]; omega
theorem fillTo_zero {α : Type} (xs : List α) (z : α) : fillTo xs z 0 = List.replicate xs.length z := by simp [fillTo]
theorem fillTo_all {α : Type} (xs : List α) (z : α) : fillTo xs z xs.length = xs := by simp [fillTo]
theorem fillTo_set {α : Type} (xs : List α) (z : α) (i : Nat) (h : i < xs.length) : (fillTo xs z i).set i xs[i] = fillTo xs z (i + 1) := by
  unfold fillTo
  have hl : (xs.take i).length = i := by rw [List.length_take]; omega
  have e : xs.length - i = (xs.length - (i + 1)) + 1 := by omega
  rw [e, List.replicate_succ, List.set_append_right _ _ (by omega), hl, Nat.sub_self, List.set_cons_zero, List.take_succ_eq_append_getElem h, List.append_assoc]
  rfl
def lokP : Option Int → List Int → Bool
  | _, [] => true
  | p, x :: l => decide (0 ≤ x) && (match p with | none => true | some q => decide (q < x)) && lokP (some x) l
def lok (l : List Int) : Bool := lokP none l && decide (l.length ≤ 40)
def prevI (l : List Int) (i : Nat) : Option Int := if i = 0 then none else some (l.getD (i - 1) 0)
theorem rd_pred (l : List Int) (i : Nat) (h : 0 < i) : rd l ((i : Int) - 1) = l.getD (i - 1) 0 := by
  unfold rd
  congr 1
  omega
theorem lokP_cons (p : Option Int) (x : Int) (l : List Int) : lokP p (x :: l) = (decide (0 ≤ x) && (match p with | none => true | some q => decide (q < x)) && lokP (some x) l) := rfl
theorem prevI_succ (l : List Int) (i : Nat) (h : i < l.length) : prevI l (i + 1) = some l[i] := by
  unfold prevI
  rw [if_neg (by omega), Nat.add_sub_cancel, getD_of h]
theorem lokP_step (l : List Int) (i : Nat) (h : i < l.length) : lokP (prevI l i) (l.drop i) = (decide (0 ≤ l[i]) && (if 0 < i then decide ((l.getD (i - 1) 0) < l[i]) else true) && lokP (prevI l (i + 1)) (l.drop (i + 1))) := by
  rw [drop_at h, lokP_cons, prevI_succ l i h]
  by_cases hi : i = 0
  · subst hi; rfl
  · unfold prevI
    rw [if_neg hi, if_pos (by omega)]
def Srt (l : List Int) : Prop := l.Pairwise (· < ·)
theorem srt_cons {x : Int} {l : List Int} : Srt (x :: l) ↔ (∀ y ∈ l, x < y) ∧ Srt l := List.pairwise_cons
theorem lokP_srt : ∀ (l : List Int) (p : Option Int), lokP p l = true → Srt l ∧ (∀ x ∈ l, 0 ≤ x) ∧ (∀ q, p = some q → ∀ x ∈ l, q < x)
  | [], _, _ => ⟨List.Pairwise.nil, by simp, by simp⟩
  | x :: l, p, h => by
    rw [lokP_cons, Bool.and_eq_true, Bool.and_eq_true] at h
    obtain ⟨⟨h0, h1⟩, h2⟩ := h
    obtain ⟨a, b, c⟩ := lokP_srt l (some x) h2
    have h0 := of_decide_eq_true h0
    refine ⟨srt_cons.mpr ⟨c x rfl, a⟩, ?_, ?_⟩
    · intro y hy
      rcases List.mem_cons.mp hy with rfl | hy
      · exact h0
      · exact b y hy
    · rintro q rfl y hy
      have h1 : q < x := of_decide_eq_true h1
      rcases List.mem_cons.mp hy with rfl | hy
      · exact h1
      · have := c x rfl y hy; omega
theorem lok_srt {l : List Int} (h : lok l = true) : Srt l ∧ (∀ x ∈ l, 0 ≤ x) ∧ l.length ≤ 40 := by
  unfold lok at h
  rw [Bool.and_eq_true] at h
  exact ⟨(lokP_srt l none h.1).1, (lokP_srt l none h.1).2.1, of_decide_eq_true h.2⟩
theorem srt_lokP : ∀ (l : List Int) (p : Option Int), Srt l → (∀ x ∈ l, 0 ≤ x) → (∀ q, p = some q → ∀ x ∈ l, q < x) → lokP p l = true
  | [], _, _, _, _ => rfl
  | x :: l, p, h, h0, hp => by
    rw [lokP_cons, Bool.and_eq_true, Bool.and_eq_true]
    obtain ⟨h1, h2⟩ := srt_cons.mp h
    refine ⟨⟨decide_eq_true (h0 x List.mem_cons_self), ?_⟩, srt_lokP l (some x) h2 (fun y hy => h0 y (List.mem_cons_of_mem _ hy)) ?_⟩
    · cases p with
      | none => rfl
      | some q => exact decide_eq_true (hp q rfl x List.mem_cons_self)
    · rintro q e y hy
      obtain rfl := Option.some.inj e
      exact h1 y hy
theorem srt_ext : ∀ (a b : List Int), Srt a → Srt b → (∀ x, x ∈ a ↔ x ∈ b) → a = b
  | [], [], _, _, _ => rfl
  | [], y :: b, _, _, h => absurd ((h y).mpr List.mem_cons_self) (by simp)
  | x :: a, [], _, _, h => absurd ((h x).mp List.mem_cons_self) (by simp)
  | x :: a, y :: b, ha, hb, h => by
    obtain ⟨a1, a2⟩ := srt_cons.mp ha
    obtain ⟨b1, b2⟩ := srt_cons.mp hb
    have e : x = y := by
      rcases List.mem_cons.mp ((h x).mp List.mem_cons_self) with e | e
      · exact e
      · rcases List.mem_cons.mp ((h y).mpr List.mem_cons_self) with e' | e'
        · exact e'.symm
        · have := a1 y e'; have := b1 x e; omega
    subst e
    rw [srt_ext a b a2 b2]
    intro z
    constructor
    · intro hz
      rcases List.mem_cons.mp ((h z).mp (List.mem_cons_of_mem _ hz)) with e | e
      · have := a1 z hz; omega
      · exact e
    · intro hz
      rcases List.mem_cons.mp ((h z).mpr (List.mem_cons_of_mem _ hz)) with e | e
      · have := b1 z hz; omega
      · exact e
theorem srt_filter {l : List Int} (h : Srt l) (p : Int → Bool) : Srt (l.filter p) := List.Pairwise.filter _ h
theorem iteL_mem {c : Bool} {x y : Int} : x ∈ (if c = true then [y] else []) ↔ x = y ∧ c = true := by cases c <;> simp
theorem mem_mergeL (K : Bool → Bool → Bool) (a b : List Int) (ha : Srt a) (hb : Srt b) : ∀ x, x ∈ mergeL K a b ↔ (x ∈ a ∨ x ∈ b) ∧ K (decide (x ∈ a)) (decide (x ∈ b)) = true := by
  induction a, b using mergeL.induct with
  | case1 => intro x; rw [mergeL]; simp
  | case2 y la ih =>
    intro x
    rw [mergeL, List.mem_append, iteL_mem, ih (srt_cons.mp ha).2 hb]
    by_cases e : x = y
    · subst e
      have : x ∉ la := fun hx => by have := (srt_cons.mp ha).1 x hx; omega
      simp [this]
    · simp [e]
  | case3 y lb ih =>
    intro x
    rw [mergeL, List.mem_append, iteL_mem, ih ha (srt_cons.mp hb).2]
    by_cases e : x = y
    · subst e
      have : x ∉ lb := fun hx => by have := (srt_cons.mp hb).1 x hx; omega
      simp [this]
    · simp [e]
  | case4 y la z lb hlt ih =>
    intro x
    rw [mergeL, if_pos hlt, List.mem_append, iteL_mem, ih (srt_cons.mp ha).2 hb]
    by_cases e : x = y
    · subst e
      have h1 : x ∉ la := fun hx => by have := (srt_cons.mp ha).1 x hx; omega
      have h2 : x ∉ lb := fun hx => by have := (srt_cons.mp hb).1 x hx; omega
      have h3 : ¬ x = z := by omega
      simp [h1, h2, h3]
    · simp [e]
  | case5 y la z lb hlt hgt ih =>
    intro x
    rw [mergeL, if_neg hlt, if_pos hgt, List.mem_append, iteL_mem, ih ha (srt_cons.mp hb).2]
    by_cases e : x = z
    · subst e
      have h1 : x ∉ la := fun hx => by have := (srt_cons.mp ha).1 x hx; omega
      have h2 : x ∉ lb := fun hx => by have := (srt_cons.mp hb).1 x hx; omega
      have h3 : ¬ x = y := by omega
      simp [h1, h2, h3]
    · simp [e]
  | case6 y la z lb hlt hgt ih =>
    intro x
    rw [mergeL, if_neg hlt, if_neg hgt, List.mem_append, iteL_mem, ih (srt_cons.mp ha).2 (srt_cons.mp hb).2]
    obtain rfl : y = z := by omega
    by_cases e : x = y
    · subst e
      have h1 : x ∉ la := fun hx => by have := (srt_cons.mp ha).1 x hx; omega
      have h2 : x ∉ lb := fun hx => by have := (srt_cons.mp hb).1 x hx; omega
      simp [h1, h2]
    · simp [e]
theorem srt_ite {c : Bool} {y : Int} {l : List Int} (h : Srt l) (hy : ∀ x ∈ l, y < x) : Srt ((if c = true then [y] else []) ++ l) := by
  cases c
  · exact h
  · exact srt_cons.mpr ⟨hy, h⟩
theorem srt_mergeL (K : Bool → Bool → Bool) (a b : List Int) (ha : Srt a) (hb : Srt b) : Srt (mergeL K a b) := by
  induction a, b using mergeL.induct with
  | case1 => rw [mergeL]; exact List.Pairwise.nil
  | case2 y la ih =>
    rw [mergeL]
    refine srt_ite (ih (srt_cons.mp ha).2 hb) fun x hx => ?_
    rcases ((mem_mergeL K _ _ (srt_cons.mp ha).2 hb x).mp hx).1 with h | h
    · exact (srt_cons.mp ha).1 x h
    · simp at h
  | case3 y lb ih =>
    rw [mergeL]
    refine srt_ite (ih ha (srt_cons.mp hb).2) fun x hx => ?_
    rcases ((mem_mergeL K _ _ ha (srt_cons.mp hb).2 x).mp hx).1 with h | h
    · simp at h
    · exact (srt_cons.mp hb).1 x h
  | case4 y la z lb hlt ih =>
    rw [mergeL, if_pos hlt]
    refine srt_ite (ih (srt_cons.mp ha).2 hb) fun x hx => ?_
    rcases ((mem_mergeL K _ _ (srt_cons.mp ha).2 hb x).mp hx).1 with h | h
    · exact (srt_cons.mp ha).1 x h
    · rcases List.mem_cons.mp h with rfl | h
      · exact hlt
      · have := (srt_cons.mp hb).1 x h; omega
  | case5 y la z lb hlt hgt ih =>
    rw [mergeL, if_neg hlt, if_pos hgt]
    refine srt_ite (ih ha (srt_cons.mp hb).2) fun x hx => ?_
    rcases ((mem_mergeL K _ _ ha (srt_cons.mp hb).2 x).mp hx).1 with h | h
    · rcases List.mem_cons.mp h with rfl | h
      · exact hgt
      · have := (srt_cons.mp ha).1 x h; omega
    · exact (srt_cons.mp hb).1 x h
  | case6 y la z lb hlt hgt ih =>
    rw [mergeL, if_neg hlt, if_neg hgt]
    refine srt_ite (ih (srt_cons.mp ha).2 (srt_cons.mp hb).2) fun x hx => ?_
    rcases ((mem_mergeL K _ _ (srt_cons.mp ha).2 (srt_cons.mp hb).2 x).mp hx).1 with h | h
    · have := (srt_cons.mp ha).1 x h; omega
    · exact (srt_cons.mp hb).1 x h
def bothV (a b : List Int) : List Int := if (lok a && lok b) = true then a.filter (fun x => decide (x ∈ b)) else []
def lessV (a b : List Int) : List Int := if (lok a && lok b) = true then a.filter (fun x => !decide (x ∈ b)) else []
theorem merge_both {a b : List Int} (ha : Srt a) (hb : Srt b) : mergeL (fun x y => x && y) a b = a.filter (fun x => decide (x ∈ b)) := by
  refine srt_ext _ _ (srt_mergeL _ _ _ ha hb) (srt_filter ha _) fun x => ?_
  rw [mem_mergeL _ _ _ ha hb, List.mem_filter]
  by_cases h1 : x ∈ a <;> by_cases h2 : x ∈ b <;> simp [h1, h2]
theorem merge_less {a b : List Int} (ha : Srt a) (hb : Srt b) : mergeL (fun x y => x && !y) a b = a.filter (fun x => !decide (x ∈ b)) := by
  refine srt_ext _ _ (srt_mergeL _ _ _ ha hb) (srt_filter ha _) fun x => ?_
  rw [mem_mergeL _ _ _ ha hb, List.mem_filter]
  by_cases h1 : x ∈ a <;> by_cases h2 : x ∈ b <;> simp [h1, h2]
theorem nats_lt {a b : Nat} (h : (a : Int) < (b : Int)) : a < b := by omega
theorem spec_ListOk_ev (l : List Int) (hl : l.length < 9223372036854775807) : Ev (fun k => spec_ListOk.f k l) (lok l) := by
  have key : ∀ i, i ≤ l.length → Ev (fun k => spec_ListOk.l0 k l (i : Int)) (lokP (prevI l i) (l.drop i) && decide (l.length ≤ 40)) := by
    refine from_index ?_ ?_
    · refine Ev.step (fun k => by rw [spec_ListOk.l0]) ?_
      simp only [nat_nlt (Nat.le_refl _), if_false]
      refine Ev.const ?_
      rw [List.drop_length]
      simp only [lokP, Bool.true_and]
      congr 1
      exact decide_eq_decide.mpr (by omega)
    · intro i hi ih
      refine Ev.step (fun k => by rw [spec_ListOk.l0]) ?_
      rw [lokP_step l i hi]
      simp only [nat_lt hi, nat_pos, if_true, rd_nat, getD_of hi, wrap_succ (show i < 9223372036854775807 by omega), wrap_pred (show i < 9223372036854775807 by omega)]
      by_cases a : l[i] < 0
      · have a' : ¬ 0 ≤ l[i] := by omega
        simp only [a, if_true, a', decide_false, Bool.false_and]
        exact Ev.now _
      · have a' : 0 ≤ l[i] := by omega
        simp only [a, if_false, a', decide_true, Bool.true_and]
        by_cases c : 0 < i
        · have c1 : ((i : Int) > 0) = True := by simp [c]
          have c2 : (0 ≤ (i : Int) - 1) = True := by simp; omega
          have c3 : ((i : Int) - 1 < (l.length : Int)) = True := by simp; omega
          simp only [c1, c2, c3, if_true, rd_pred l i c, if_pos c]
          by_cases d : (l.getD (i - 1) 0) < l[i]
          · simp only [ge_iff_le, Int.not_le.mpr d, if_false, d, decide_true, Bool.true_and]
            exact ih
          · simp only [ge_iff_le, Int.not_lt.mp d, if_true, d, decide_false, Bool.false_and]
            exact Ev.now _
        · have c1 : ((i : Int) > 0) = False := by simp; omega
          simp only [c1, if_false, if_neg c, Bool.true_and]
          exact ih
  unfold spec_ListOk.f
  exact key 0 (Nat.zero_le _)
def eitherV (a b : List Int) : List Int := if (lok a && lok b) = true then mergeL (fun x y => x || y) a b else []
theorem srt_put {l : List Int} {n : Int} {i : Nat} (h : Srt l) (h1 : ∀ x ∈ l.take i, x < n) (h2 : ∀ x ∈ l.drop i, n < x) : Srt (l.take i ++ [n] ++ l.drop i) := by
  have hs : (l.take i ++ l.drop i).Pairwise (· < ·) := by rw [List.take_append_drop]; exact h
  obtain ⟨a, b, c⟩ := List.pairwise_append.mp hs
  rw [List.append_assoc]
  refine List.pairwise_append.mpr ⟨a, srt_cons.mpr ⟨h2, b⟩, ?_⟩
  intro x hx y hy
  rcases List.mem_cons.mp hy with rfl | hy
  · exact h1 x hx
  · exact c x hx y hy
theorem mem_put {l : List Int} {n x : Int} {i : Nat} : x ∈ l.take i ++ [n] ++ l.drop i ↔ x = n ∨ x ∈ l := by
  conv => rhs; rw [← List.take_append_drop i l]
  simp only [List.mem_append, List.mem_singleton]
  constructor
  · rintro ((h | h) | h)
    · exact Or.inr (Or.inl h)
    · exact Or.inl h
    · exact Or.inr (Or.inr h)
  · rintro (h | h | h)
    · exact Or.inl (Or.inr h)
    · exact Or.inl (Or.inl h)
    · exact Or.inr h
theorem spec_l4Put_ev (l : List Int) (n : Int) (hl : l.length ≤ 1048576) (hs : Srt l) : ∃ r, Ev (fun k => spec_l4Put.f k l n) r ∧ Srt r ∧ (∀ x, x ∈ r ↔ x = n ∨ x ∈ l) ∧ r.length ≤ l.length + 1 := by
  have key : ∀ i, i ≤ l.length → (∀ x ∈ l.take i, x < n) → ∃ r, Ev (fun k => spec_l4Put.l0 k l n (i : Int)) r ∧ Srt r ∧ (∀ x, x ∈ r ↔ x = n ∨ x ∈ l) ∧ r.length ≤ l.length + 1 := by
    refine from_index ?_ ?_
    · intro h
      refine ⟨l.take l.length ++ [n] ++ l.drop l.length, ?_, srt_put hs h (by simp), fun x => mem_put, by simp⟩
      refine Ev.step (fun k => by rw [spec_l4Put.l0]) ?_
      refine Ev.ifn (by omega) (Ev.bind (Ev.some_ rfl) (Ev.ifp (by omega) (Ev.ifp (by omega) ?_)))
      rw [Int.toNat_natCast]
      refine Ev.ifp (by simp; omega) (Ev.bind (Ev.some_ rfl) (Ev.bind (Ev.some_ rfl) (Ev.ifp (by simp; omega) (Ev.bind (Ev.some_ rfl) (Ev.ifp (by simp; omega) (Ev.now _))))))
    · intro i hi ih h
      by_cases c : l[i] < n
      · obtain ⟨r, e, h1⟩ := ih (by
          intro x hx
          rw [List.take_succ_eq_append_getElem hi] at hx
          rcases List.mem_append.mp hx with hx | hx
          · exact h x hx
          · rw [List.mem_singleton.mp hx]; exact c)
        refine ⟨r, ?_, h1⟩
        refine Ev.step (fun k => by rw [spec_l4Put.l0]) ?_
        refine Ev.ifp (by omega) (Ev.ifp (by omega) ?_)
        rw [rd_nat, getD_of hi, wrap_succ (show i < 9223372036854775807 by omega)]
        exact Ev.ifp c e
      · by_cases d : l[i] = n
        · refine ⟨l, ?_, hs, fun x => ⟨Or.inr, fun hx => hx.elim (fun e => by rw [e, ← d]; exact List.getElem_mem hi) id⟩, by omega⟩
          refine Ev.step (fun k => by rw [spec_l4Put.l0]) ?_
          refine Ev.ifp (by omega) (Ev.ifp (by omega) ?_)
          rw [rd_nat, getD_of hi]
          exact Ev.ifn c (Ev.ifp d (Ev.now _))
        · have h2 : ∀ x ∈ l.drop i, n < x := by
            intro x hx
            have hd : Srt (l.drop i) := List.Pairwise.drop hs
            rw [drop_at hi] at hx hd
            rcases List.mem_cons.mp hx with rfl | hx
            · omega
            · have := (srt_cons.mp hd).1 x hx; omega
          refine ⟨l.take i ++ [n] ++ l.drop i, ?_, srt_put hs h h2, fun x => mem_put, by simp; omega⟩
          refine Ev.step (fun k => by rw [spec_l4Put.l0]) ?_
          refine Ev.ifp (by omega) (Ev.ifp (by omega) ?_)
          rw [rd_nat, getD_of hi]
          refine Ev.ifn c (Ev.ifn d (Ev.bind (Ev.some_ rfl) (Ev.ifp (by omega) ?_)))
          rw [Int.toNat_natCast]
          refine Ev.ifp (by simp; omega) (Ev.bind (Ev.some_ rfl) (Ev.bind (Ev.some_ rfl) (Ev.ifp (by simp; omega) (Ev.bind (Ev.some_ rfl) (Ev.ifp (by simp; omega) (Ev.now _))))))
  unfold spec_l4Put.f
  exact key 0 (Nat.zero_le _) (by simp)
theorem spec_ListEither_l0 (l1 : List Int) (h1 : l1.length ≤ 1000) : ∀ i, i ≤ l1.length → ∀ o : List Int, Srt o → o.length ≤ 1000 + i → ∃ r, Ev (fun k => spec_ListEither.l0 k l1 o (i : Int)) r ∧ Srt r ∧ (∀ x, x ∈ r ↔ x ∈ o ∨ x ∈ l1.drop i) := by
  refine from_index ?_ ?_
  · intro o ho hl
    refine ⟨o, ?_, ho, by simp⟩
    refine Ev.step (fun k => by rw [spec_ListEither.l0]) ?_
    exact Ev.ifn (by omega) (Ev.now _)
  · intro i hi ih o ho hl
    obtain ⟨r, e, h2, h3, h4⟩ := spec_l4Put_ev o l1[i] (by omega) ho
    obtain ⟨q, e2, h5, h6⟩ := ih r h2 (by omega)
    refine ⟨q, ?_, h5, ?_⟩
    · refine Ev.step (fun k => by rw [spec_ListEither.l0]) ?_
      refine Ev.ifp (by omega) (Ev.ifp (by omega) ?_)
      rw [rd_nat, getD_of hi, wrap_succ (show i < 9223372036854775807 by omega)]
      exact Ev.bind e e2
    · intro x
      rw [h6, h3, drop_at hi, List.mem_cons]
      constructor
      · rintro ((h | h) | h)
        · exact Or.inr (Or.inl h)
        · exact Or.inl h
        · exact Or.inr (Or.inr h)
      · rintro (h | h | h)
        · exact Or.inl (Or.inr h)
        · exact Or.inl (Or.inl h)
        · exact Or.inr h
theorem spec_ListEither_ev (l0 l1 : List Int) (h0 : l0.length ≤ 1048576) (h1 : l1.length ≤ 1048576) : Ev (fun k => spec_ListEither.f k l0 l1) (eitherV l0 l1) := by
  unfold spec_ListEither.f eitherV
  refine Ev.bind (spec_ListOk_ev l0 (by omega)) ?_
  cases a : lok l0
  · refine Ev.ifn (by decide) ?_
    refine Ev.step (fun k => by rw [spec_ListEither.j0]) ?_
    exact Ev.ifp rfl (Ev.now _)
  · refine Ev.ifp rfl ?_
    refine Ev.bind (spec_ListOk_ev l1 (by omega)) ?_
    refine Ev.step (fun k => by rw [spec_ListEither.j0]) ?_
    cases b : lok l1
    · exact Ev.ifp rfl (Ev.now _)
    · refine Ev.ifn (by decide) ?_
      obtain ⟨a1, a2, a3⟩ := lok_srt a
      obtain ⟨b1, b2, b3⟩ := lok_srt b
      refine Ev.bind (Ev.some_ rfl) (Ev.ifp (by simp; omega) ?_)
      obtain ⟨r, e, h2, h3⟩ := spec_ListEither_l0 l1 (by omega) 0 (Nat.zero_le _) ([] ++ l0) (by simpa using a1) (by simp; omega)
      have er : r = mergeL (fun x y => x || y) l0 l1 := by
        refine srt_ext _ _ h2 (srt_mergeL _ _ _ a1 b1) fun x => ?_
        rw [h3, mem_mergeL _ _ _ a1 b1]
        by_cases p : x ∈ l0 <;> by_cases q : x ∈ l1 <;> simp [p, q]
      rw [← er]
      exact e
theorem impl_ListOk_ev (l : List Int) (hl : l.length < 9223372036854775807) : Ev (fun k => impl_ListOk.f k l) (lok l) := by
  have key : ∀ i, i ≤ l.length → Ev (fun k => impl_ListOk.l0 k l l (l.length : Int) (i : Int)) (lokP (prevI l i) (l.drop i) && decide (l.length ≤ 40)) := by
    refine from_index ?_ ?_
    · refine Ev.step (fun k => by rw [impl_ListOk.l0]) ?_
      simp only [nat_nlt (Nat.le_refl _), if_false]
      refine Ev.const ?_
      rw [List.drop_length]
      simp only [lokP, Bool.true_and]
      congr 1
      exact decide_eq_decide.mpr (by omega)
    · intro i hi ih
      refine Ev.step (fun k => by rw [impl_ListOk.l0]) ?_
      rw [lokP_step l i hi]
      simp only [nat_lt hi, nat_pos, if_true, rd_nat, getD_of hi, wrap_succ (show i < 9223372036854775807 by omega), wrap_pred (show i < 9223372036854775807 by omega)]
      by_cases a : l[i] < 0
      · have a' : ¬ 0 ≤ l[i] := by omega
        simp only [a, if_true, a', decide_false, Bool.false_and]
        exact Ev.now _
      · have a' : 0 ≤ l[i] := by omega
        simp only [a, if_false, a', decide_true, Bool.true_and]
        by_cases c : 0 < i
        · have c1 : ((i : Int) > 0) = True := by simp [c]
          have c2 : (0 ≤ (i : Int) - 1) = True := by simp; omega
          have c3 : ((i : Int) - 1 < (l.length : Int)) = True := by simp; omega
          simp only [c1, c2, c3, if_true, rd_pred l i c, if_pos c]
          by_cases d : (l.getD (i - 1) 0) < l[i]
          · simp only [ge_iff_le, Int.not_le.mpr d, if_false, d, decide_true, Bool.true_and]
            exact ih
          · simp only [ge_iff_le, Int.not_lt.mp d, if_true, d, decide_false, Bool.false_and]
            exact Ev.now _
        · have c1 : ((i : Int) > 0) = False := by simp; omega
          simp only [c1, if_false, if_neg c, Bool.true_and]
          exact ih
  unfold impl_ListOk.f
  exact key 0 (Nat.zero_le _)
theorem impl_merged_ev (K : Bool → Bool → Bool) (l0 l1 : List Int) (h0 : l0.length ≤ 1048576) (h1 : l1.length ≤ 1048576) : Ev (fun k => impl_merged.f k K l0 l1) (if (lok l0 && lok l1) = true then mergeL K l0 l1 else []) := by
  unfold impl_merged.f
  refine Ev.bind (impl_ListOk_ev l0 (by omega)) ?_
  refine Ev.bind (impl_ListOk_ev l1 (by omega)) ?_
  by_cases c : (lok l0 && lok l1) = true
  · rw [if_pos c, if_pos c]
    rw [Bool.and_eq_true] at c
    have := (lok_srt c.1).2.2
    have := (lok_srt c.2).2.2
    exact Ev.ifp (by omega) (Ev.now _)
  · rw [if_neg c, if_neg c]
    exact Ev.now _
theorem impl_ListEither_ev (l0 l1 : List Int) (h0 : l0.length ≤ 1048576) (h1 : l1.length ≤ 1048576) : Ev (fun k => impl_ListEither.f k l0 l1) (if (lok l0 && lok l1) = true then mergeL (fun x y => x || y) l0 l1 else []) := impl_merged_ev (fun x y => x || y) l0 l1 h0 h1
theorem len_mergeL (K : Bool → Bool → Bool) (a b : List Int) : (mergeL K a b).length ≤ a.length + b.length := by
  have hi : ∀ (c : Bool) (y : Int), (if c = true then [y] else []).length ≤ 1 := by intro c y; cases c <;> simp
  induction a, b using mergeL.induct with
  | case1 => rw [mergeL]; simp
  | case2 y la ih => rw [mergeL, List.length_append]; have := hi (K true false) y; simp only [List.length_cons, List.length_nil] at *; omega
  | case3 y lb ih => rw [mergeL, List.length_append]; have := hi (K false true) y; simp only [List.length_cons, List.length_nil] at *; omega
  | case4 y la z lb hlt ih => rw [mergeL, if_pos hlt, List.length_append]; have := hi (K true false) y; simp only [List.length_cons] at *; omega
  | case5 y la z lb hlt hgt ih => rw [mergeL, if_neg hlt, if_pos hgt, List.length_append]; have := hi (K false true) z; simp only [List.length_cons] at *; omega
  | case6 y la z lb hlt hgt ih => rw [mergeL, if_neg hlt, if_neg hgt, List.length_append]; have := hi (K true true) z; simp only [List.length_cons] at *; omega
theorem eitherM_len (a b : List Int) : (if (lok a && lok b) = true then mergeL (fun x y => x || y) a b else []).length ≤ a.length + b.length := by
  split
  · exact len_mergeL _ _ _
  · exact Nat.zero_le _
theorem impl_ListBoth_ev (l0 l1 : List Int) (h0 : l0.length ≤ 1048576) (h1 : l1.length ≤ 1048576) : Ev (fun k => impl_ListBoth.f k l0 l1) (bothV l0 l1) := by
  have h := impl_merged_ev (fun x y => x && y) l0 l1 h0 h1
  unfold bothV
  by_cases c : (lok l0 && lok l1) = true
  · rw [if_pos c] at h ⊢
    rw [Bool.and_eq_true] at c
    rw [← merge_both (lok_srt c.1).1 (lok_srt c.2).1]
    exact h
  · rw [if_neg c] at h ⊢
    exact h
/-- bytes -/
def Bytes (b : List Int) : Prop := b.length ≤ 2000 ∧ ∀ x ∈ b, 0 ≤ x ∧ x ≤ 255
theorem rd_byte {b : List Int} (h : Bytes b) (i : Int) : 0 ≤ rd b i ∧ rd b i ≤ 255 := by
  unfold rd
  rw [List.getD_eq_getElem?_getD]
  cases e : b[i.toNat]? with
  | none => simp
  | some x => simpa using h.2 x (List.mem_of_getElem? e)
theorem xor_i64_range {a b : Int} (ha0 : 0 ≤ a) (ha : a < 4611686018427387904) (hb0 : 0 ≤ b) (hb : b < 4611686018427387904) : 0 ≤ Go.bits .xor .i64 a b := by
  obtain ⟨m, rfl⟩ := Int.eq_ofNat_of_zero_le ha0
  obtain ⟨n, rfl⟩ := Int.eq_ofNat_of_zero_le hb0
  have hx : m ^^^ n < 2 ^ 62 := Nat.xor_lt_two_pow (by omega) (by omega)
  have h1 : m % 2 ^ IntKind.i64.bits = m := Nat.mod_eq_of_lt (by simp [IntKind.bits]; omega)
  have h2 : n % 2 ^ IntKind.i64.bits = n := Nat.mod_eq_of_lt (by simp [IntKind.bits]; omega)
  simp only [Go.bits, BitVec.ofInt_natCast, BitVec.toNat_xor, BitVec.toNat_ofNat, h1, h2]
  rw [IntKind.wrap_i64]
  omega
theorem mix_range {u v k q : Int} (hu : 0 ≤ u ∧ u ≤ 255) (hv : 0 ≤ v ∧ v ≤ 255) (hk : 0 ≤ k ∧ k ≤ 1099511627776) (hq : 0 ≤ q ∧ q ≤ 1099511627776) :
    0 ≤ wrap64 ((wrap64 ((wrap64 ((wrap64 ((wrap64 u) * 131)) + (wrap64 ((wrap64 v) * 1117)))) + (wrap64 (k * 29)))) + (wrap64 ((wrap64 q) * 53))) ∧ wrap64 ((wrap64 ((wrap64 ((wrap64 ((wrap64 u) * 131)) + (wrap64 ((wrap64 v) * 1117)))) + (wrap64 (k * 29)))) + (wrap64 ((wrap64 q) * 53))) < 4611686018427387904 := by
  have e1 : wrap64 u = u := wrap_in (by omega) (by omega)
  have e2 : wrap64 v = v := wrap_in (by omega) (by omega)
  have e3 : wrap64 q = q := wrap_in (by omega) (by omega)
  rw [e1, e2, e3]
  clear e1 e2 e3
  have e4 : wrap64 (u * 131) = u * 131 := wrap_in (by omega) (by omega)
  have e5 : wrap64 (v * 1117) = v * 1117 := wrap_in (by omega) (by omega)
  have e6 : wrap64 (k * 29) = k * 29 := wrap_in (by omega) (by omega)
  have e7 : wrap64 (q * 53) = q * 53 := wrap_in (by omega) (by omega)
  rw [e4, e5, e6, e7]
  clear e4 e5 e6 e7
  have e8 : wrap64 (u * 131 + v * 1117) = u * 131 + v * 1117 := wrap_in (by omega) (by omega)
  rw [e8]
  clear e8
  have e9 : wrap64 (u * 131 + v * 1117 + k * 29) = u * 131 + v * 1117 + k * 29 := wrap_in (by omega) (by omega)
  rw [e9]
  clear e9
  have e10 : wrap64 (u * 131 + v * 1117 + k * 29 + q * 53) = u * 131 + v * 1117 + k * 29 + q * 53 := wrap_in (by omega) (by omega)
  rw [e10]
  clear e10
  omega
/-- A number is picked: it is below n, and the place is one on. -/
theorem pick_ev (b : List Int) (hb : Bytes b) (p n : Int) (hp0 : 0 ≤ p) (hp : p < 1099511627776) : ∃ v, Ev (fun k => spec_l1Rd_pick.f k b p n) (v, p + 1) ∧ 0 ≤ v ∧ (1 ≤ n → v < n) := by
  have hw : wrap64 (p + 1) = p + 1 := wrap_in (by omega) (by omega)
  have hw2 : wrap64 (p + 1 - 1) = p := (wrap_in (by omega) (by omega)).trans (by omega)
  by_cases hn : n < 1
  · refine ⟨0, ?_, by omega, by omega⟩
    unfold spec_l1Rd_pick.f
    refine Ev.ifp hn ?_
    refine Ev.step (fun k => by rw [spec_l1Rd_pick.j0]) ?_
    rw [hw]
    exact Ev.ifp rfl (Ev.now _)
  · by_cases hz : b.length = 0
    · refine ⟨0, ?_, by omega, by omega⟩
      unfold spec_l1Rd_pick.f
      refine Ev.ifn hn ?_
      refine Ev.step (fun k => by rw [spec_l1Rd_pick.j0]) ?_
      rw [hw]
      exact Ev.ifp (by rw [hz]; rfl) (Ev.now _)
    · have core : ∀ X : Int, 0 ≤ X → 0 ≤ Int.tmod X n ∧ Int.tmod X n < n := by
        intro X hX
        rw [Int.tmod_eq_emod_of_nonneg hX]
        exact ⟨Int.emod_nonneg _ (by omega), Int.emod_lt_of_pos _ (by omega)⟩
      have hn0 : ¬ n = 0 := by omega
      unfold spec_l1Rd_pick.f
      by_cases hlt : p < (b.length : Int)
      · have hr := rd_byte hb p
        have hwr : wrap64 (rd b p) = rd b p := wrap_in (by omega) (by omega)
        refine ⟨Int.tmod (rd b p) n, ?_, (core _ hr.1).1, fun _ => (core _ hr.1).2⟩
        refine Ev.ifn hn ?_
        refine Ev.step (fun k => by rw [spec_l1Rd_pick.j0]) ?_
        refine Ev.ifn (by simpa using hz) ?_
        rw [hw, hw2]
        refine Ev.ifp hlt (Ev.ifp hp0 (Ev.ifn hn0 ?_))
        rw [hwr]
        exact Ev.now _
      · have hlen : (b.length : Int) ≤ 2000 := by have := hb.1; omega
        have hi1 : 0 ≤ Int.tmod p (b.length : Int) ∧ Int.tmod p (b.length : Int) < (b.length : Int) := by
          rw [Int.tmod_eq_emod_of_nonneg hp0]
          exact ⟨Int.emod_nonneg _ (by omega), Int.emod_lt_of_pos _ (by omega)⟩
        have hj : wrap64 ((wrap64 (p * 7)) + 3) = p * 7 + 3 := by
          have : wrap64 (p * 7) = p * 7 := wrap_in (by omega) (by omega)
          rw [this]; exact wrap_in (by omega) (by omega)
        have hi2 : 0 ≤ Int.tmod (p * 7 + 3) (b.length : Int) ∧ Int.tmod (p * 7 + 3) (b.length : Int) < (b.length : Int) := by
          rw [Int.tmod_eq_emod_of_nonneg (by omega)]
          exact ⟨Int.emod_nonneg _ (by omega), Int.emod_lt_of_pos _ (by omega)⟩
        have hq : 0 ≤ Int.tdiv p (b.length : Int) ∧ Int.tdiv p (b.length : Int) ≤ 1099511627776 := by
          rw [Int.tdiv_eq_ediv_of_nonneg hp0]
          have h1 := Int.ediv_nonneg hp0 (show 0 ≤ (b.length : Int) by omega)
          have h2 := Int.ediv_le_self (b.length : Int) hp0
          omega
        have hA := mix_range (rd_byte hb (Int.tmod p (b.length : Int))) (rd_byte hb (Int.tmod (p * 7 + 3) (b.length : Int))) (k := p) ⟨hp0, by omega⟩ hq
        generalize hX : wrap64 ((wrap64 ((wrap64 ((wrap64 ((wrap64 (rd b (Int.tmod p (b.length : Int)))) * 131)) + (wrap64 ((wrap64 (rd b (Int.tmod (p * 7 + 3) (b.length : Int)))) * 1117)))) + (wrap64 (p * 29)))) + (wrap64 ((wrap64 (Int.tdiv p (b.length : Int))) * 53))) = X at hA
        have hY : 0 ≤ wrap64 (Int.tdiv X 64) ∧ wrap64 (Int.tdiv X 64) < 4611686018427387904 := by
          rw [Int.tdiv_eq_ediv_of_nonneg hA.1, wrap_in (by omega) (by omega)]; omega
        have hxor := xor_i64_range hA.1 hA.2 hY.1 hY.2
        refine ⟨Int.tmod (Go.bits .xor .i64 X (wrap64 (Int.tdiv X 64))) n, ?_, (core _ hxor).1, fun _ => (core _ hxor).2⟩
        refine Ev.ifn hn ?_
        refine Ev.step (fun k => by rw [spec_l1Rd_pick.j0]) ?_
        refine Ev.ifn (by simpa using hz) ?_
        rw [hw, hw2, hj]
        refine Ev.ifn hlt (Ev.ifn (by omega) (Ev.ifp hi1.1 (Ev.ifp hi1.2 (Ev.ifp hi2.1 (Ev.ifp hi2.2 (Ev.ifn hn0 ?_))))))
        rw [hX]
        exact Ev.now _
theorem open_eq (l : List Int) (hl : l.length ≤ maxLen) (h : ∀ x ∈ l, (Lit.int .u8 x).wf = true) : ∃ b, spec_l1Open.f l = some (b, 0) ∧ Bytes b := by
  have hw : ∀ x ∈ l, 0 ≤ x ∧ x ≤ 255 := fun x hx => wf_u8 (h x hx)
  unfold spec_l1Open.f
  by_cases c : (l.length : Int) > 2000
  · rw [if_pos c, if_pos (by omega)]
    exact ⟨_, rfl, by rw [List.length_take]; omega, fun x hx => hw x (List.mem_of_mem_take hx)⟩
  · rw [if_neg c]
    exact ⟨_, rfl, by omega, hw⟩
theorem l13List_l1 (b : List Int) (hb : Bytes b) : ∀ (d : Nat) (x : List Int) (p : Int), 41 ≤ x.length + d → 0 ≤ p → p + d ≤ 1000000 → ∃ L q, Ev (fun k => spec_l13List.l1 k x b p) (L, q) ∧ L.length ≤ x.length + d ∧ p ≤ q ∧ q ≤ p + d + 1
  | d, x, p, hd, h0, h1 => by
    obtain ⟨v, e, v0, v1⟩ := pick_ev b hb p 2 h0 (by omega)
    have v1 := v1 (by omega)
    have hw : wrap64 (40 + v) = 40 + v := wrap_in (by omega) (by omega)
    by_cases c : (x.length : Int) < 40 + v
    · match d, hd, h1 with
      | 0, hd, h1 => omega
      | d + 1, hd, h1 =>
        by_cases c2 : x.length < 17592186044416
        · obtain ⟨L, q, e2, hL, hq0, hq1⟩ := l13List_l1 b hb d (x ++ [wrap64 (100 + (x.length : Int))]) (p + 1) (by rw [List.length_append]; simp only [List.length_cons, List.length_nil]; omega) (by omega) (by omega)
          refine ⟨L, q, ?_, by rw [List.length_append] at hL; simp only [List.length_cons, List.length_nil] at hL; omega, by omega, by omega⟩
          refine Ev.step (fun k => by rw [spec_l13List.l1]) ?_
          refine Ev.bind e ?_
          rw [hw]
          exact Ev.ifp c (Ev.ifp c2 e2)
        · omega
    · refine ⟨x, p + 1, ?_, by omega, by omega, by omega⟩
      refine Ev.step (fun k => by rw [spec_l13List.l1]) ?_
      refine Ev.bind e ?_
      rw [hw]
      exact Ev.ifn c (Ev.now _)
theorem l13List_l0 (b : List Int) (hb : Bytes b) : ∀ (d : Nat) (x : List Int) (y p : Int), d ≤ 8 → x.length + d ≤ 8 → 0 ≤ p → p + d ≤ 900000 → ∃ L q, Ev (fun k => spec_l13List.l0 k x y (d : Int) b p) (L, q) ∧ L.length ≤ 60 ∧ p ≤ q ∧ q ≤ p + 60 + d
  | 0, x, y, p, hd, hx, h0, h1 => by
    obtain ⟨v, e, v0, v1⟩ := pick_ev b hb p 16 h0 (by omega)
    by_cases a0 : v = 0
    · refine ⟨x ++ [0], p + 1, ?_, by simp; omega, by omega, by omega⟩
      refine Ev.step (fun k => by rw [spec_l13List.l0]) ?_
      refine Ev.ifn (by simp) (Ev.bind e (Ev.ifp a0 (Ev.ifp (by omega) (Ev.now _))))
    · by_cases a1 : v = 1
      · obtain ⟨L, q, e2, hL, hq0, hq1⟩ := l13List_l1 b hb 41 x (p + 1) (by omega) (by omega) (by omega)
        refine ⟨L, q, ?_, by omega, by omega, by omega⟩
        refine Ev.step (fun k => by rw [spec_l13List.l0]) ?_
        exact Ev.ifn (by simp) (Ev.bind e (Ev.ifn a0 (Ev.ifp a1 e2)))
      · by_cases a2 : v = 2
        · refine ⟨[(-1)] ++ x, p + 1, ?_, by simp; omega, by omega, by omega⟩
          refine Ev.step (fun k => by rw [spec_l13List.l0]) ?_
          exact Ev.ifn (by simp) (Ev.bind e (Ev.ifn a0 (Ev.ifn a1 (Ev.ifp a2 (Ev.bind (Ev.some_ rfl) (Ev.ifp (by simp; omega) (Ev.now _)))))))
        · refine ⟨x, p + 1, ?_, by omega, by omega, by omega⟩
          refine Ev.step (fun k => by rw [spec_l13List.l0]) ?_
          exact Ev.ifn (by simp) (Ev.bind e (Ev.ifn a0 (Ev.ifn a1 (Ev.ifn a2 (Ev.now _)))))
  | d + 1, x, y, p, hd, hx, h0, h1 => by
    obtain ⟨v, e, v0, v1⟩ := pick_ev b hb p 3 h0 (by omega)
    obtain ⟨L, q, e2, hL, hq0, hq1⟩ := l13List_l0 b hb d (x ++ [y]) (wrap64 ((wrap64 (y + 1)) + v)) (p + 1) (by omega) (by rw [List.length_append]; simp only [List.length_cons, List.length_nil]; omega) (by omega) (by omega)
    refine ⟨L, q, ?_, hL, by omega, by omega⟩
    refine Ev.step (fun k => by rw [spec_l13List.l0]) ?_
    have hw : wrap64 (((d + 1 : Nat) : Int) - 1) = (d : Int) := (wrap_in (by omega) (by omega)).trans (by omega)
    rw [hw]
    exact Ev.ifp (by omega) (Ev.ifp (by omega) (Ev.bind e e2))
theorem l13List_ev (b : List Int) (hb : Bytes b) (p : Int) (h0 : 0 ≤ p) (h1 : p ≤ 800000) : ∃ L q, Ev (fun k => spec_l13List.f k b p) (L, q) ∧ L.length ≤ 60 ∧ p ≤ q ∧ q ≤ p + 80 := by
  obtain ⟨v, e, v0, v1⟩ := pick_ev b hb p 3 h0 (by omega)
  obtain ⟨u, e', u0, u1⟩ := pick_ev b hb (p + 1) 8 (by omega) (by omega)
  have u1 := u1 (by omega)
  obtain ⟨n, rfl⟩ := Int.eq_ofNat_of_zero_le u0
  obtain ⟨L, q, e2, hL, hq0, hq1⟩ := l13List_l0 b hb n [] v (p + 1 + 1) (by omega) (by simp; omega) (by omega) (by omega)
  refine ⟨L, q, ?_, hL, by omega, by omega⟩
  unfold spec_l13List.f
  exact Ev.bind e (Ev.bind e' e2)
theorem DrawListBoth_ev (l : List Int) (hl : l.length ≤ maxLen) (h : ∀ x ∈ l, (Lit.int .u8 x).wf = true) : ∃ a b, Ev (fun k => spec_DrawListBoth.f k l) (a, b) ∧ a.length ≤ 60 ∧ b.length ≤ 60 := by
  obtain ⟨c, hc, hC⟩ := open_eq l hl h
  obtain ⟨a, q, e1, ha, h0, h1⟩ := l13List_ev c hC 0 (by omega) (by omega)
  obtain ⟨b, q2, e2, hb, _, _⟩ := l13List_ev c hC q (by omega) (by omega)
  refine ⟨a, b, ?_, ha, hb⟩
  unfold spec_DrawListBoth.f
  rw [hc]
  simp only [Option.bind_some]
  exact Ev.bind e1 (Ev.bind e2 (Ev.now _))
theorem DrawListEither_ev (l : List Int) (hl : l.length ≤ maxLen) (h : ∀ x ∈ l, (Lit.int .u8 x).wf = true) : ∃ a b, Ev (fun k => spec_DrawListEither.f k l) (a, b) ∧ a.length ≤ 60 ∧ b.length ≤ 60 := by
  obtain ⟨a, b, e, h1⟩ := DrawListBoth_ev l hl h
  refine ⟨a, b, ?_, h1⟩
  unfold spec_DrawListEither.f
  first | exact e | exact Ev.bind e (Ev.now _)
theorem alInts_refl (l : List Int) (hl : l.length < 9223372036854775807) : Ev (fun k => laws_alInts.f k l l) true := by
  have key : ∀ i, i ≤ l.length → Ev (fun k => laws_alInts.l0 k l l (i : Int)) true := by
    refine from_index ?_ ?_
    · refine Ev.step (fun k => by rw [laws_alInts.l0]) ?_
      simp only [nat_nlt (Nat.le_refl _), if_false]
      exact Ev.now _
    · intro i hi ih
      refine Ev.step (fun k => by rw [laws_alInts.l0]) ?_
      simp only [nat_lt hi, nat_pos, if_true, wrap_succ (show i < 9223372036854775807 by omega)]
      exact ih
  unfold laws_alInts.f
  simp only [if_true]
  exact key 0 (Nat.zero_le _)
theorem bothV_comm (a b : List Int) : bothV b a = bothV a b := by
  unfold bothV
  rw [Bool.and_comm]
  by_cases c : (lok a && lok b) = true
  · rw [if_pos c, if_pos c]
    rw [Bool.and_eq_true] at c
    have ha := (lok_srt c.1).1; have hb := (lok_srt c.2).1
    refine srt_ext _ _ (srt_filter hb _) (srt_filter ha _) fun x => ?_
    simp [List.mem_filter, and_comm]
  · rw [if_neg c, if_neg c]
theorem bothV_len (a b : List Int) : (bothV a b).length ≤ a.length := by
  unfold bothV
  split
  · exact List.length_filter_le _ _
  · exact Nat.zero_le _
theorem lessV_len (a b : List Int) : (lessV a b).length ≤ a.length := by
  unfold lessV
  split
  · exact List.length_filter_le _ _
  · exact Nat.zero_le _
theorem lok_filter {l : List Int} (h : lok l = true) (p : Int → Bool) : lok (l.filter p) = true := by
  obtain ⟨h1, h2, h3⟩ := lok_srt h
  unfold lok
  rw [Bool.and_eq_true]
  refine ⟨srt_lokP _ none (srt_filter h1 p) (fun x hx => h2 x (List.mem_filter.mp hx).1) (by simp), decide_eq_true ?_⟩
  have := List.length_filter_le p l
  omega
theorem laws_alHas_ev (l : List Int) (hl : l.length < 9223372036854775807) (a : Int) : Ev (fun k => laws_alHas.f k l a) (decide (a ∈ l)) := by
  have key : ∀ i, i ≤ l.length → Ev (fun k => laws_alHas.l0 k l a (i : Int)) (decide (a ∈ l.drop i)) := by
    refine from_index ?_ ?_
    · refine Ev.step (fun k => by rw [laws_alHas.l0]) ?_
      simp only [nat_nlt (Nat.le_refl _), if_false]
      exact Ev.const (by rw [List.drop_length]; simp)
    · intro i hi ih
      refine Ev.step (fun k => by rw [laws_alHas.l0]) ?_
      simp only [nat_lt hi, nat_pos, if_true, rd_nat, getD_of hi, wrap_succ (show i < 9223372036854775807 by omega)]
      rw [drop_at hi]
      by_cases e : l[i] = a
      · exact Ev.ifp e (Ev.some_ (decide_eq_true (e ▸ List.mem_cons_self)).symm)
      · refine Ev.ifn e ?_
        have e' : ¬ a = l[i] := fun h => e h.symm
        simp only [List.mem_cons, e', false_or]
        exact ih
  unfold laws_alHas.f
  exact key 0 (Nat.zero_le _)

theorem len_both : ∀ (a b : List Int), (mergeL (fun x y => x || y) a b).length + (mergeL (fun x y => x && y) a b).length = a.length + b.length := by
  intro a b
  induction a, b using mergeL.induct with
  | case1 => simp [mergeL]
  | case2 y la ih => rw [mergeL, mergeL]; simp at *; omega
  | case3 y lb ih => rw [mergeL, mergeL]; simp at *; omega
  | case4 y la z lb hlt ih => rw [mergeL, mergeL, if_pos hlt, if_pos hlt]; simp at *; omega
  | case5 y la z lb hlt hgt ih => rw [mergeL, mergeL, if_neg hlt, if_neg hlt, if_pos hgt, if_pos hgt]; simp at *; omega
  | case6 y la z lb hlt hgt ih => rw [mergeL, mergeL, if_neg hlt, if_neg hlt, if_neg hgt, if_neg hgt]; simp at *; omega
theorem eitherV_comm (a b : List Int) : eitherV b a = eitherV a b := by
  unfold eitherV
  rw [Bool.and_comm]
  by_cases c : (lok a && lok b) = true
  · rw [if_pos c, if_pos c]
    rw [Bool.and_eq_true] at c
    have ha := (lok_srt c.1).1; have hb := (lok_srt c.2).1
    refine srt_ext _ _ (srt_mergeL _ _ _ hb ha) (srt_mergeL _ _ _ ha hb) fun x => ?_
    rw [mem_mergeL _ _ _ hb ha, mem_mergeL _ _ _ ha hb]
    by_cases p : x ∈ a <;> by_cases q : x ∈ b <;> simp [p, q]
  · rw [if_neg c, if_neg c]
theorem eitherV_len (a b : List Int) : (eitherV a b).length ≤ a.length + b.length := eitherM_len a b
theorem impl_ListEither_ev' (l0 l1 : List Int) (h0 : l0.length ≤ 1048576) (h1 : l1.length ≤ 1048576) : Ev (fun k => impl_ListEither.f k l0 l1) (eitherV l0 l1) := impl_ListEither_ev l0 l1 h0 h1
theorem srt_get {l : List Int} (h : Srt l) (i : Nat) (hi : i + 1 < l.length) : l.getD i 0 < l[i + 1] := by
  rw [getD_of (show i < l.length by omega)]
  exact List.pairwise_iff_getElem.mp h i (i + 1) (by omega) hi (by omega)
theorem FnListEither_l0 (a b x y : List Int) (la : a.length ≤ 60) (lb : b.length ≤ 60) (oa : lok a = true) (hx : x.length ≤ 120) (hs : Srt x) (hm : ∀ z, z ∈ x → z ∈ a ∨ z ∈ b) (hy : x.length + y.length = a.length + b.length) : ∀ i, i ≤ x.length → Ev (fun k => laws_FnListEither.l0 k a b x y (i : Int)) true := by
  refine from_index ?_ ?_
  · refine Ev.step (fun k => by rw [laws_FnListEither.l0]) ?_
    refine Ev.ifn (by omega) ?_
    rw [wrap_in (show -9223372036854775808 ≤ (x.length : Int) + (y.length : Int) by omega) (by omega), wrap_in (show -9223372036854775808 ≤ (a.length : Int) + (b.length : Int) by omega) (by omega)]
    refine Ev.ifp (by omega) (Ev.bind (impl_ListEither_ev' a a (by omega) (by omega)) ?_)
    have e : eitherV a a = a := by
      have sa := (lok_srt oa).1
      unfold eitherV
      rw [if_pos (by rw [oa]; rfl)]
      refine srt_ext _ _ (srt_mergeL _ _ _ sa sa) sa fun z => ?_
      rw [mem_mergeL _ _ _ sa sa]
      by_cases p : z ∈ a <;> simp [p]
    rw [e]
    exact Ev.bind (alInts_refl a (by omega)) (Ev.now _)
  · intro i hi ih
    refine Ev.step (fun k => by rw [laws_FnListEither.l0]) ?_
    refine Ev.ifp (by omega) (Ev.ifp (by omega) ?_)
    rw [wrap_succ (show i < 9223372036854775807 by omega), wrap_pred (show i < 9223372036854775807 by omega)]
    simp only [rd_nat, getD_of hi]
    have tail : Ev (fun k => if (i : Int) > 0 then (if 0 ≤ (i : Int) - 1 then (if (i : Int) - 1 < (x.length : Int) then (if rd x ((i : Int) - 1) ≥ x[i] then (some false) else (laws_FnListEither.l0 k a b x y ((i + 1 : Nat) : Int))) else (none)) else (none)) else (laws_FnListEither.l0 k a b x y ((i + 1 : Nat) : Int))) true := by
      by_cases c : i = 0
      · exact Ev.ifn (by omega) ih
      · refine Ev.ifp (by omega) (Ev.ifp (by omega) (Ev.ifp (by omega) (Ev.ifn ?_ ih)))
        obtain ⟨j, rfl⟩ : ∃ j, i = j + 1 := ⟨i - 1, by omega⟩
        rw [rd_pred x (j + 1) (by omega), Nat.add_sub_cancel]
        have := srt_get hs j hi
        omega
    refine Ev.bind (laws_alHas_ev a (by omega) _) ?_
    by_cases p : x[i] ∈ a
    · rw [decide_eq_true p]
      exact Ev.ifp rfl tail
    · rw [decide_eq_false p]
      refine Ev.ifn (by decide) (Ev.bind (laws_alHas_ev b (by omega) _) ?_)
      have q : x[i] ∈ b := (hm _ (List.getElem_mem hi)).resolve_left p
      rw [decide_eq_true q]
      exact Ev.ifp rfl tail
theorem FnListEither_j0 (a b : List Int) (la : a.length ≤ 60) (lb : b.length ≤ 60) : Ev (fun k => laws_FnListEither.j0 k a b (eitherV a b) true) true := by
  refine Ev.step (fun k => by rw [laws_FnListEither.j0]) ?_
  have h1 := eitherV_len a b
  refine Ev.ifp rfl (Ev.bind (spec_ListEither_ev a b (by omega) (by omega)) (Ev.bind (alInts_refl _ (by omega)) (Ev.ifp rfl ?_)))
  refine Ev.bind (impl_ListEither_ev' b a (by omega) (by omega)) ?_
  rw [eitherV_comm]
  exact Ev.bind (alInts_refl _ (by omega)) (Ev.now _)
theorem FnListEither : laws_FnListEither.Pure := by
  intro l hl _ h
  apply Ev.rounds
  unfold laws_FnListEither.f
  by_cases c : (l.length : Int) > 1048576
  · exact Ev.ifp c (Ev.now _)
  refine Ev.ifn c ?_
  obtain ⟨a, b, e, la, lb⟩ := DrawListEither_ev l hl h
  have h1 := eitherV_len a b
  refine Ev.bind e (Ev.bind (impl_ListEither_ev' a b (by omega) (by omega)) (Ev.bind (spec_ListEither_ev a b (by omega) (by omega)) (Ev.bind (alInts_refl _ (by omega)) (Ev.ifp rfl ?_))))
  refine Ev.bind (impl_ListEither_ev' b a (by omega) (by omega)) ?_
  rw [eitherV_comm]
  refine Ev.bind (alInts_refl _ (by omega)) (Ev.ifp rfl (Ev.bind (spec_ListOk_ev a (by omega)) ?_))
  have J := FnListEither_j0 a b la lb
  by_cases oa : lok a = true
  · refine Ev.ifp oa (Ev.bind (spec_ListOk_ev b (by omega)) ?_)
    by_cases ob : lok b = true
    · rw [ob]
      refine Ev.step (fun k => by rw [laws_FnListEither.j0]) ?_
      refine Ev.ifn (by decide) (Ev.bind (impl_ListBoth_ev a b (by omega) (by omega)) ?_)
      have sa := (lok_srt oa).1; have sb := (lok_srt ob).1
      have eE : eitherV a b = mergeL (fun x y => x || y) a b := by unfold eitherV; rw [if_pos (by rw [oa, ob]; rfl)]
      have eB : bothV a b = mergeL (fun x y => x && y) a b := by unfold bothV; rw [if_pos (by rw [oa, ob]; rfl), merge_both sa sb]
      refine FnListEither_l0 a b _ _ la lb oa (by omega) (by rw [eE]; exact srt_mergeL _ _ _ sa sb) (fun z hz => ?_) (by rw [eE, eB]; exact len_both a b) 0 (Nat.zero_le _)
      rw [eE] at hz
      exact ((mem_mergeL _ _ _ sa sb z).mp hz).1
    · rw [Bool.eq_false_iff.mpr ob]
      exact J
  · exact Ev.ifn oa J

end Go.Proofs.Ytibkljplegpcdaa.Pure
