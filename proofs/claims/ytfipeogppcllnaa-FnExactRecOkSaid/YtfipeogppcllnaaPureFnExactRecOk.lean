/- The program's RecOk answers as the reference's, for every record; no condition. -/
import Derived.Test.YtfipeogppcllnaaFitFnExactRecOk
import Derived.Test.YtfipeogppcllnaaWOwn
set_option linter.unusedVariables false
set_option linter.unusedSimpArgs false
namespace Go.Proofs.Ytfipeogppcllnaa.Pure
open Go.RowKit Go.Proofs.Ytfipeogppcllnaa.QFnExactRecOk Go.Proofs.YtfipeogppcllnaaW.PrintWords Go.Proofs.YtfipeogppcllnaaW.PrintLast Go.Proofs.YtfipeogppcllnaaW.Own

theorem nat_lt {i n : Nat} (h : i < n) : ((i : Int) < (n : Int)) = True := by simp [h]
theorem nat_nlt {i n : Nat} (h : n ≤ i) : ((i : Int) < (n : Int)) = False := by simp [h]
theorem nat_pos (i : Nat) : (0 ≤ (i : Int)) = True := by simp
theorem wrap_succ {i : Nat} (h : i < 9223372036854775807) : wrap64 ((i : Int) + 1) = ((i + 1 : Nat) : Int) := by unfold wrap64; omega
theorem wrap_pred {i : Nat} (h : i < 9223372036854775807) : wrap64 ((i : Int) - 1) = (i : Int) - 1 := by unfold wrap64; omega
theorem wrap_sub {a : Int} {n : Nat} (h0 : 0 ≤ a) (h1 : a ≤ 9223372036854775807) (hn : n ≤ maxLen) : wrap64 (a - (n : Int)) = a - (n : Int) := by unfold wrap64; unfold maxLen at hn; omega
theorem rd_nat (l : List Int) (i : Nat) : rd l (i : Int) = l.getD i 0 := rfl
theorem getD_of {α : Type} {l : List α} {i : Nat} (h : i < l.length) (d : α) : l.getD i d = l[i] := by simp [List.getD, List.getElem?_eq_getElem h]
theorem drop_at {α : Type} {l : List α} {i : Nat} (h : i < l.length) : l.drop i = l[i] :: l.drop (i + 1) := List.drop_eq_getElem_cons h
theorem bt_nat (s : ByteArray) (i : Nat) (h : i < s.size) : bt s (i : Int) = ((s[i]'h).toNat : Int) := by
  unfold bt
  have : (i : Int).toNat = i := by omega
  simp [h]
/-- From an index on: at the end, and one round. -/
theorem from_index {P : Nat → Prop} {n : Nat} (h0 : P n) (h1 : ∀ i, i < n → P (i + 1) → P i) : ∀ i, i ≤ n → P i := by
  have key : ∀ d i, i + d = n → P i := by
    intro d
    induction d with
    | zero => intro i h; obtain rfl : i = n := by omega
              exact h0
    | succ d ih => intro i h; exact h1 i (by omega) (ih (i + 1) (by omega))
  intro i hi
  exact key (n - i) i (by omega)
/-- A row that is filled from the front. -/
def fillTo {α : Type} (xs : List α) (z : α) (i : Nat) : List α := xs.take i ++ List.replicate (xs.length - i) z
theorem fillTo_length {α : Type} (xs : List α) (z : α) (i : Nat) (h : i ≤ xs.length) : (fillTo xs z i).length = xs.length := by
  unfold fillTo; rw [List.length_append, List.length_take, List.length_replicate]; omega
theorem fillTo_zero {α : Type} (xs : List α) (z : α) : fillTo xs z 0 = List.replicate xs.length z := by simp [fillTo]
theorem fillTo_all {α : Type} (xs : List α) (z : α) : fillTo xs z xs.length = xs := by simp [fillTo]
theorem fillTo_set {α : Type} (xs : List α) (z : α) (i : Nat) (h : i < xs.length) : (fillTo xs z i).set i xs[i] = fillTo xs z (i + 1) := by
  unfold fillTo
  have hl : (xs.take i).length = i := by rw [List.length_take]; omega
  have e : xs.length - i = (xs.length - (i + 1)) + 1 := by omega
  rw [e, List.replicate_succ, List.set_append_right _ _ (by omega), hl, Nat.sub_self, List.set_cons_zero, List.take_succ_eq_append_getElem h, List.append_assoc]
  rfl
theorem spec_LabelsOk_eq (l : List Lbl) (h : bdL l = true) : spec_LabelsOk.f l = some (labelsB l) := by unfold spec_LabelsOk.f; rw [if_pos h]
theorem impl_LabelsOk_eq (l : List Lbl) (h : bdL l = true) : impl_LabelsOk.f l = some (labelsB l) := by unfold impl_LabelsOk.f; rw [if_pos h]
def In_Label (x : S140) : Prop := x.f0.size ≤ 1048576 ∧ x.f1.size ≤ 1048576
def Bd_Label (x : S119) : Prop := x.f0.size ≤ 1048576 ∧ x.f1.size ≤ 1048576
def cv_Label (x : S140) : S119 := ⟨x.f0, x.f1⟩
theorem rdl_Label (l : List S140) (i : Nat) : rd_T140 l (i : Int) = l.getD i z140 := rfl
theorem rdi_Label (l : List S119) (i : Nat) : rd_T119 l (i : Int) = l.getD i z119 := rfl
theorem rdp_Label (l : List S119) (i : Nat) (h : 0 < i) : rd_T119 l ((i : Int) - 1) = l.getD (i - 1) z119 := by
  unfold rd_T119
  congr 1
  omega
theorem cvbd_Label (x : S140) (h : In_Label x) : Bd_Label (cv_Label x) := ⟨h.1, h.2⟩
theorem cvbds_Label (l : List S140) (h : ∀ x ∈ l, In_Label x) : ∀ y ∈ l.map cv_Label, Bd_Label y := fun y hy => by obtain ⟨u, hu, rfl⟩ := List.mem_map.1 hy; exact cvbd_Label u (h u hu)
theorem bdL_of (l : List Lbl) (hl : l.length ≤ 1048576) (h : ∀ x ∈ l, Bd_Label x) : bdL l = true := by
  unfold bdL
  rw [decide_eq_true (show l.length < 9223372036854775807 by omega), Bool.true_and]
  refine List.all_eq_true.2 fun x hx => ?_
  have hb := h x hx
  unfold Bd_Label at hb
  simp only [bdS, decide_eq_true (show x.f0.size < 9223372036854775807 by omega), decide_eq_true (show x.f1.size < 9223372036854775807 by omega), Bool.and_self]
theorem spec_l1In_eq (a b c : Int) : spec_l1In.f a b c = some (decide (b ≤ a ∧ a ≤ c)) := by
  unfold spec_l1In.f
  by_cases h : a ≥ b
  · rw [if_pos h]
    have h' : b ≤ a := h
    simp [h']
  · rw [if_neg h]
    have h' : ¬ b ≤ a := h
    simp [h']
theorem impl_MatchesOk_eq (l : List Mch) (h : bdM l = true) : impl_MatchesOk.f l = some (mchsB l) := by unfold impl_MatchesOk.f; rw [if_pos h]
theorem spec_MatchesOk_ev (l : List Mch) (hb : bdM l = true) : Ev (fun k => spec_MatchesOk.f k l) (mchsB l) := by
  have hn := bdM_len hb
  have key : ∀ i, i ≤ l.length → Ev (fun k => spec_MatchesOk.l0 k l (i : Int)) ((l.drop i).all mchB && decide (l.length ≤ 4)) := by
    refine from_index ?_ ?_
    · refine Ev.step (fun k => by rw [spec_MatchesOk.l0]) ?_
      refine Ev.ifn (by omega) (Ev.some_ ?_)
      rw [List.drop_length, List.all_nil, Bool.true_and]
      exact decide_eq_decide.mpr (by omega)
    · intro i hi ih
      refine Ev.step (fun k => by rw [spec_MatchesOk.l0]) ?_
      refine Ev.ifp (by omega) (Ev.ifp (by omega) ?_)
      have e : rd_T89 l (i : Int) = l[i] := by unfold rd_T89; rw [Int.toNat_natCast, getD_of hi]
      obtain ⟨h1, h2⟩ := bdM_at hb (List.getElem_mem hi)
      rw [e, wrap_succ (show i < 9223372036854775807 by omega), drop_at hi, List.all_cons]
      have hN : spec_l3Name.f l[i].f1 = some (lettersB l[i].f1 6 && (l[i].f1.toList != [])) := by unfold spec_l3Name.f; rw [if_pos h1]
      have hW : spec_l3Letters.f l[i].f2 8 = some (lettersB l[i].f2 8) := by unfold spec_l3Letters.f; rw [if_pos h2]
      have hm : mchB l[i] = ((decide (1 ≤ l[i].f0) && decide (l[i].f0 ≤ 4)) && (lettersB l[i].f1 6 && (l[i].f1.toList != [])) && lettersB l[i].f2 8) := rfl
      rw [hm]
      refine Ev.bind (Ev.const (spec_l1In_eq _ _ _)) ?_
      by_cases c1 : 1 ≤ l[i].f0 ∧ l[i].f0 ≤ 4
      · rw [decide_eq_true c1, decide_eq_true c1.1, decide_eq_true c1.2]
        refine Ev.ifp rfl (Ev.bind (Ev.const hN) ?_)
        cases c2 : (lettersB l[i].f1 6 && (l[i].f1.toList != []))
        · exact Ev.ifn (by decide) (Ev.now _)
        · refine Ev.ifp rfl (Ev.bind (Ev.const hW) ?_)
          cases c3 : lettersB l[i].f2 8
          · exact Ev.ifn (by decide) (Ev.now _)
          · exact Ev.ifp rfl ih
      · rw [decide_eq_false c1]
        have c0 : (decide (1 ≤ l[i].f0) && decide (l[i].f0 ≤ 4)) = false := by
          by_cases h1 : 1 ≤ l[i].f0
          · rw [decide_eq_true h1, decide_eq_false (by omega)]; rfl
          · rw [decide_eq_false h1]; rfl
        rw [c0]
        exact Ev.ifn (by decide) (Ev.now _)
  unfold spec_MatchesOk.f
  have := key 0 (Nat.zero_le _)
  rw [List.drop_zero, Bool.and_comm] at this
  exact this
def In_Match (x : S83) : Prop := x.f1.size ≤ 1048576 ∧ x.f2.size ≤ 1048576
def Bd_Match (x : S89) : Prop := x.f1.size ≤ 1048576 ∧ x.f2.size ≤ 1048576
def cv_Match (x : S83) : S89 := ⟨x.f0, x.f1, x.f2⟩
theorem rdl_Match (l : List S83) (i : Nat) : rd_T83 l (i : Int) = l.getD i z83 := rfl
theorem rdi_Match (l : List S89) (i : Nat) : rd_T89 l (i : Int) = l.getD i z89 := rfl
theorem rdp_Match (l : List S89) (i : Nat) (h : 0 < i) : rd_T89 l ((i : Int) - 1) = l.getD (i - 1) z89 := by
  unfold rd_T89
  congr 1
  omega
theorem cvbd_Match (x : S83) (h : In_Match x) : Bd_Match (cv_Match x) := ⟨h.1, h.2⟩
theorem cvbds_Match (l : List S83) (h : ∀ x ∈ l, In_Match x) : ∀ y ∈ l.map cv_Match, Bd_Match y := fun y hy => by obtain ⟨u, hu, rfl⟩ := List.mem_map.1 hy; exact cvbd_Match u (h u hu)
theorem bdM_of (l : List Mch) (hl : l.length ≤ 1048576) (h : ∀ x ∈ l, Bd_Match x) : bdM l = true := by
  unfold bdM
  rw [decide_eq_true (show l.length < 9223372036854775807 by omega), Bool.true_and]
  refine List.all_eq_true.2 fun x hx => ?_
  have hb := h x hx
  unfold Bd_Match at hb
  simp only [bdS, decide_eq_true (show x.f1.size < 9223372036854775807 by omega), decide_eq_true (show x.f2.size < 9223372036854775807 by omega), Bool.and_self]
abbrev Smp := S87
def inR (x : Smp) : Bool := decide (0 ≤ x.f0 ∧ x.f0 ≤ 9999 ∧ 0 ≤ x.f1 ∧ x.f1 ≤ 2147483647)
def sokP : Option Smp → List Smp → Bool
  | _, [] => true
  | p, x :: l => inR x && (match p with | none => true | some q => decide (q.f0 < x.f0)) && sokP (some x) l
def sok (l : List Smp) : Bool := sokP none l
def prevOf (l : List Smp) (i : Nat) : Option Smp := if i = 0 then none else some (l.getD (i - 1) z87)
theorem rdS_nat (l : List Smp) (i : Nat) : rd_T87 l (i : Int) = l.getD i z87 := rfl
theorem rdS_pred (l : List Smp) (i : Nat) (h : 0 < i) : rd_T87 l ((i : Int) - 1) = l.getD (i - 1) z87 := by
  unfold rd_T87
  congr 1
  omega
theorem sokP_cons (p : Option Smp) (x : Smp) (l : List Smp) : sokP p (x :: l) = (inR x && (match p with | none => true | some q => decide (q.f0 < x.f0)) && sokP (some x) l) := rfl
theorem prevOf_succ (l : List Smp) (i : Nat) (h : i < l.length) : prevOf l (i + 1) = some l[i] := by
  unfold prevOf
  rw [if_neg (by omega), Nat.add_sub_cancel, getD_of h]
theorem sokP_step (l : List Smp) (i : Nat) (h : i < l.length) : sokP (prevOf l i) (l.drop i) = (inR l[i] && (if 0 < i then decide ((l.getD (i - 1) z87).f0 < (l[i]).f0) else true) && sokP (prevOf l (i + 1)) (l.drop (i + 1))) := by
  rw [drop_at h, sokP_cons, prevOf_succ l i h]
  by_cases hi : i = 0
  · subst hi; rfl
  · unfold prevOf
    rw [if_neg hi, if_pos (by omega)]
theorem spec_l2Ok_ev (l : List Smp) (hl : l.length < 9223372036854775807) : Ev (fun k => spec_l2Ok.f k l) (sok l) := by
  have key : ∀ i, i ≤ l.length → Ev (fun k => spec_l2Ok.l0 k l (i : Int)) (sokP (prevOf l i) (l.drop i)) := by
    refine from_index ?_ ?_
    · refine Ev.step (fun k => by rw [spec_l2Ok.l0]) ?_
      simp only [nat_nlt (Nat.le_refl _), if_false]
      exact Ev.const (by simp [sokP])
    · intro i hi ih
      refine Ev.step (fun k => by rw [spec_l2Ok.l0]) ?_
      rw [sokP_step l i hi]
      simp only [nat_lt hi, nat_pos, if_true, spec_l1In_eq, Option.bind_some, rdS_nat, getD_of hi, wrap_succ (show i < 9223372036854775807 by omega), wrap_pred (show i < 9223372036854775807 by omega)]
      by_cases a : 0 ≤ (l[i]).f0 ∧ (l[i]).f0 ≤ 9999
      · simp only [a, and_self, decide_true, if_true]
        by_cases b : 0 ≤ (l[i]).f1 ∧ (l[i]).f1 ≤ 2147483647
        · have e : inR l[i] = true := by simp [inR, a, b]
          simp only [b, and_self, decide_true, if_true, e, Bool.true_and]
          by_cases c : 0 < i
          · have c1 : ((i : Int) > 0) = True := by simp [c]
            have c2 : (0 ≤ (i : Int) - 1) = True := by simp; omega
            have c3 : ((i : Int) - 1 < (l.length : Int)) = True := by simp; omega
            simp only [c1, c2, c3, if_true, rdS_pred l i c, if_pos c]
            by_cases d : (l.getD (i - 1) z87).f0 < (l[i]).f0
            · simp only [ge_iff_le, Int.not_le.mpr d, if_false, d, decide_true, Bool.true_and]
              exact ih
            · simp only [ge_iff_le, Int.not_lt.mp d, if_true, d, decide_false, Bool.false_and]
              exact Ev.now _
          · have c1 : ((i : Int) > 0) = False := by simp; omega
            simp only [c1, if_false, if_neg c, Bool.true_and]
            exact ih
        · have e : inR l[i] = false := by simp only [inR, decide_eq_false_iff_not]; exact fun h => b ⟨h.2.2.1, h.2.2.2⟩
          simp only [b, decide_false, e, Bool.false_and, Bool.false_eq_true, if_false]
          exact Ev.now _
      · have e : inR l[i] = false := by simp only [inR, decide_eq_false_iff_not]; exact fun h => a ⟨h.1, h.2.1⟩
        simp only [a, decide_false, e, Bool.false_and, Bool.false_eq_true, if_false]
        exact Ev.now _
  unfold spec_l2Ok.f sok
  exact key 0 (Nat.zero_le _)
theorem inR_one (T V : Int) : sok [(⟨T, V⟩ : Smp)] = ((decide (0 ≤ T) && decide (T ≤ 9999)) && (decide (0 ≤ V) && decide (V ≤ 2147483647))) := by
  unfold sok
  rw [sokP_cons]
  unfold inR
  rw [← Bool.coe_iff_coe]
  simp [sokP]
  omega
theorem bdE_of (l : List Ent) (hl : l.length ≤ 1048576) (h : ∀ x ∈ l, bdL x.f0 = true) : bdE l = true := by
  unfold bdE
  rw [decide_eq_true (show l.length < 9223372036854775807 by omega), Bool.true_and]
  exact List.all_eq_true.2 h
theorem rdE (l : List Ent) {i : Nat} (h : i < l.length) : rd_T66 l (i : Int) = l[i] := by unfold rd_T66; rw [Int.toNat_natCast, getD_of h]
def batchB (l : List Ent) : Bool := l.all entryB && decide (1 ≤ (l.length : Int) ∧ (l.length : Int) ≤ 6)
theorem spec_l8Batch_ev (l : List Ent) (h : bdE l = true) : Ev (fun k => spec_l8Batch.f k l) (batchB l) := by
  have hn := bdE_len h
  have key : ∀ i, i ≤ l.length → Ev (fun k => spec_l8Batch.l0 k l (i : Int)) ((l.drop i).all entryB && decide (1 ≤ (l.length : Int) ∧ (l.length : Int) ≤ 6)) := by
    refine from_index ?_ ?_
    · refine Ev.step (fun k => by rw [spec_l8Batch.l0]) ?_
      rw [List.drop_length]
      exact Ev.ifn (by omega) (Ev.bind (Ev.const (spec_l1In_eq _ _ _)) (Ev.now _))
    · intro i hi ih
      refine Ev.step (fun k => by rw [spec_l8Batch.l0]) ?_
      rw [rdE l hi, wrap_succ (show i < 9223372036854775807 by omega), List.drop_eq_getElem_cons hi, List.all_cons]
      have hL := spec_LabelsOk_eq l[i].f0 (bdE_at h (List.getElem_mem hi))
      have hS := spec_l2Ok_ev [(⟨l[i].f1, l[i].f2⟩ : Smp)] (by simp)
      rw [inR_one] at hS
      have hE : entryB l[i] = (labelsB l[i].f0 && ((decide (0 ≤ l[i].f1) && decide (l[i].f1 ≤ 9999)) && (decide (0 ≤ l[i].f2) && decide (l[i].f2 ≤ 2147483647)))) := rfl
      rw [hE]
      refine Ev.ifp (by omega) (Ev.ifp (by omega) (Ev.bind (Ev.const hL) ?_))
      cases labelsB l[i].f0
      · exact Ev.ifn (by decide) (Ev.now _)
      refine Ev.ifp rfl (Ev.bind hS ?_)
      cases ((decide (0 ≤ l[i].f1) && decide (l[i].f1 ≤ 9999)) && (decide (0 ≤ l[i].f2) && decide (l[i].f2 ≤ 2147483647)))
      · exact Ev.ifn (by decide) (Ev.now _)
      · exact Ev.ifp rfl ih
  unfold spec_l8Batch.f
  have := key 0 (Nat.zero_le _)
  rw [List.drop_zero] at this
  exact this
def timesB (f t : Int) : Bool := decide (0 ≤ f ∧ f ≤ 9999) && decide (f ≤ t ∧ t ≤ 10000)
theorem spec_l8Times_eq (f t : Int) : spec_l8Times.f f t = some (timesB f t) := by
  unfold spec_l8Times.f timesB
  rw [spec_l1In_eq, spec_l1In_eq]
  cases decide (0 ≤ f ∧ f ≤ 9999) <;> rfl
theorem isTime_and (f : Int) : (decide (0 ≤ f) && decide (f ≤ 9999)) = decide (0 ≤ f ∧ f ≤ 9999) := by
  rw [← Bool.coe_iff_coe]; simp
theorem impl_timesOk_eq (f t : Int) : impl_timesOk.f f t = some (timesB f t) := by
  unfold impl_timesOk.f timesB
  rw [isTime_eq, isTime_and]
  cases decide (0 ≤ f ∧ f ≤ 9999)
  · rfl
  · rw [Option.bind_some, if_pos rfl, Bool.true_and]
    by_cases h : t ≥ f
    · rw [if_pos h]
      congr 1
      rw [← Bool.coe_iff_coe]; simp; omega
    · rw [if_neg h, decide_eq_false (fun g => h g.1)]
def recV (k : Int) (es : List Ent) (ms : List Mch) (f t : Int) : Bool :=
  if k = 1 then batchB es && (decide ((ms.length : Int) = 0) && (decide (f = 0) && (t == 0)))
  else if k = 2 then decide ((es.length : Int) = 0) && (mchsB ms && timesB f t)
  else if k = 3 then decide ((es.length : Int) = 0) && (decide ((ms.length : Int) = 0) && (decide (0 ≤ f ∧ f ≤ 9999) && (decide (Int.tmod f 100 = 0) && (t == 0))))
  else false
theorem ev_if {c : Prop} [Decidable c] {g : Nat → Option Bool} {b : Bool} (h : c → Ev g b) : Ev (fun k => if c then g k else some false) (decide c && b) := by
  by_cases hc : c
  · rw [decide_eq_true hc, Bool.true_and]
    exact Ev.ifp hc (h hc)
  · rw [decide_eq_false hc, Bool.false_and]
    exact Ev.ifn hc (Ev.now _)
theorem ev_and {a b : Bool} {g : Nat → Option Bool} (h : Ev g b) : Ev (fun k => if a = true then g k else some false) (a && b) := by
  cases a
  · exact Ev.ifn (by decide) (Ev.now _)
  · exact Ev.ifp rfl h
theorem spec_RecOk_ev (k : Int) (es : List Ent) (ms : List Mch) (f t : Int) (hE : bdE es = true) (hM : bdM ms = true) : Ev (fun q => spec_RecOk.f q k es ms f t) (recV k es ms f t) := by
  unfold spec_RecOk.f
  by_cases c1 : k = 1
  · rw [show recV k es ms f t = (batchB es && (decide ((ms.length : Int) = 0) && (decide (f = 0) && (t == 0)))) by unfold recV; rw [if_pos c1]]
    refine Ev.ifp c1 (Ev.bind (spec_l8Batch_ev es hE) ?_)
    exact ev_and (ev_if fun _ => ev_if fun _ => Ev.now _)
  refine Ev.ifn c1 ?_
  by_cases c2 : k = 2
  · rw [show recV k es ms f t = (decide ((es.length : Int) = 0) && (mchsB ms && timesB f t)) by unfold recV; rw [if_neg c1, if_pos c2]]
    refine Ev.ifp c2 (ev_if fun _ => Ev.bind (spec_MatchesOk_ev ms hM) ?_)
    exact ev_and (Ev.bind (Ev.const (spec_l8Times_eq f t)) (Ev.now _))
  refine Ev.ifn c2 ?_
  by_cases c3 : k = 3
  · rw [show recV k es ms f t = (decide ((es.length : Int) = 0) && (decide ((ms.length : Int) = 0) && (decide (0 ≤ f ∧ f ≤ 9999) && (decide (Int.tmod f 100 = 0) && (t == 0))))) by unfold recV; rw [if_neg c1, if_neg c2, if_pos c3]]
    refine Ev.ifp c3 (ev_if fun _ => ev_if fun _ => Ev.bind (Ev.const (spec_l1In_eq _ _ _)) ?_)
    exact ev_and (ev_if fun _ => Ev.now _)
  · rw [show recV k es ms f t = false by unfold recV; rw [if_neg c1, if_neg c2, if_neg c3]]
    exact Ev.ifn c3 (Ev.now _)
theorem opt_if {c : Prop} [Decidable c] {g : Option Bool} {b : Bool} (h : c → g = some b) : (if c then g else some false) = some (decide c && b) := by
  by_cases hc : c
  · rw [if_pos hc, h hc, decide_eq_true hc, Bool.true_and]
  · rw [if_neg hc, decide_eq_false hc, Bool.false_and]
theorem opt_and {a b : Bool} {g : Option Bool} (h : g = some b) : (if a = true then g else some false) = some (a && b) := by
  cases a
  · rfl
  · rw [if_pos rfl, h, Bool.true_and]
theorem impl_RecOk_eq (k : Int) (es : List Ent) (ms : List Mch) (f t : Int) (hE : bdE es = true) (hM : bdM ms = true) : impl_RecOk.f k es ms f t = some (recV k es ms f t) := by
  unfold impl_RecOk.f recV
  by_cases c1 : k = 1
  · rw [if_pos c1, if_pos c1, show impl_Entry.f es = some (es.any fun x => !entryB x) by unfold impl_Entry.f; rw [if_pos hE], Option.bind_some]
    have e : (es.any fun x => !entryB x) = !(es.all entryB) := by rw [List.all_eq_not_any_not, Bool.not_not]
    rw [e]
    unfold batchB
    by_cases d1 : (es.length : Int) ≥ 1
    · rw [if_pos d1]
      by_cases d2 : (es.length : Int) ≤ 6
      · rw [if_pos d2, decide_eq_true (show 1 ≤ (es.length : Int) ∧ (es.length : Int) ≤ 6 from ⟨d1, d2⟩), Bool.and_true]
        cases es.all entryB
        · rfl
        · rw [Bool.not_true, if_neg (by decide), Bool.true_and]
          exact opt_if fun _ => opt_if fun _ => rfl
      · rw [if_neg d2, decide_eq_false (fun h => d2 h.2), Bool.and_false, Bool.false_and]
    · rw [if_neg d1, decide_eq_false (fun h => d1 h.1), Bool.and_false, Bool.false_and]
  rw [if_neg c1, if_neg c1]
  by_cases c2 : k = 2
  · rw [if_pos c2, if_pos c2]
    refine opt_if fun _ => ?_
    rw [impl_MatchesOk_eq ms hM, Option.bind_some]
    refine opt_and ?_
    rw [impl_timesOk_eq]
    rfl
  rw [if_neg c2, if_neg c2]
  by_cases c3 : k = 3
  · rw [if_pos c3, if_pos c3]
    refine opt_if fun _ => opt_if fun _ => ?_
    rw [isTime_eq, isTime_and, Option.bind_some]
    exact opt_and (opt_if fun _ => rfl)
  · rw [if_neg c3, if_neg c3]
def In_Entry (x : S80) : Prop := (x.f0.length ≤ 1048576 ∧ ∀ y ∈ x.f0, In_Label y)
def Bd_Entry (x : S66) : Prop := (x.f0.length ≤ 1048576 ∧ ∀ y ∈ x.f0, Bd_Label y)
def cv_Entry (x : S80) : S66 := ⟨x.f0.map cv_Label, x.f1, x.f2⟩
theorem rdl_Entry (l : List S80) (i : Nat) : rd_T80 l (i : Int) = l.getD i z80 := rfl
theorem rdi_Entry (l : List S66) (i : Nat) : rd_T66 l (i : Int) = l.getD i z66 := rfl
theorem rdp_Entry (l : List S66) (i : Nat) (h : 0 < i) : rd_T66 l ((i : Int) - 1) = l.getD (i - 1) z66 := by
  unfold rd_T66
  congr 1
  omega
theorem cvbd_Entry (x : S80) (h : In_Entry x) : Bd_Entry (cv_Entry x) := ⟨by rw [show (cv_Entry x).f0 = x.f0.map cv_Label from rfl, List.length_map]; exact h.1, fun y hy => by obtain ⟨u, hu, rfl⟩ := List.mem_map.1 hy; exact cvbd_Label u (h.2 u hu)⟩
theorem cvbds_Entry (l : List S80) (h : ∀ x ∈ l, In_Entry x) : ∀ y ∈ l.map cv_Entry, Bd_Entry y := fun y hy => by obtain ⟨u, hu, rfl⟩ := List.mem_map.1 hy; exact cvbd_Entry u (h u hu)
theorem sz_Label (x : S140) (hf : Fit140 x) (a : Int) (h0 : 0 ≤ a) (h1 : a ≤ 1048576) : ∃ r, Ev (fun k => laws_szLabel.f x.f0 x.f1 a) r ∧ (r = -1 ∨ (0 ≤ r ∧ r ≤ a ∧ In_Label x)) := by
  unfold laws_szLabel.f
  have hz0 : x.f0.size ≤ maxLen := hf.1
  have w0 : wrap64 (a - (x.f0.size : Int)) = a - (x.f0.size : Int) := wrap_sub (by omega) (by omega) hz0
  simp only [w0]
  by_cases c0 : a - (x.f0.size : Int) < 0
  · exact ⟨-1, Ev.ifp c0 (Ev.now _), .inl rfl⟩
  obtain ⟨b0, hb0⟩ : ∃ b, b = a - (x.f0.size : Int) := ⟨_, rfl⟩
  rw [← hb0] at c0
  simp only [← hb0]
  have hz1 : x.f1.size ≤ maxLen := hf.2
  have w1 : wrap64 (b0 - (x.f1.size : Int)) = b0 - (x.f1.size : Int) := wrap_sub (by omega) (by omega) hz1
  simp only [w1]
  by_cases c1 : b0 - (x.f1.size : Int) < 0
  · exact ⟨-1, Ev.ifn c0 (Ev.ifp c1 (Ev.now _)), .inl rfl⟩
  obtain ⟨b1, hb1⟩ : ∃ b, b = b0 - (x.f1.size : Int) := ⟨_, rfl⟩
  rw [← hb1] at c1
  simp only [← hb1]
  refine ⟨b1, Ev.ifn c0 (Ev.ifn c1 (Ev.now _)), .inr ⟨by omega, by omega, ⟨(show x.f0.size ≤ 1048576 by omega), (show x.f1.size ≤ 1048576 by omega)⟩⟩⟩
theorem szs_Label (l : List S140) (hf : FitList Fit140 l) (a : Int) (h0 : 0 ≤ a) (h1 : a ≤ 1048576) : ∃ r, Ev (fun k => laws_szLabelS.f k l a) r ∧ (r = -1 ∨ (0 ≤ r ∧ r ≤ a ∧ l.length ≤ 1048576 ∧ ∀ x ∈ l, In_Label x)) := by
  have w : wrap64 (a - (l.length : Int)) = a - (l.length : Int) := wrap_sub h0 (by omega) hf.1
  unfold laws_szLabelS.f
  simp only [w]
  by_cases c : a - (l.length : Int) < 0
  · exact ⟨-1, Ev.ifp c (Ev.now _), .inl rfl⟩
  have key : ∀ i, i ≤ l.length → ∀ b : Int, 0 ≤ b → b ≤ a → ∃ r, Ev (fun k => laws_szLabelS.l0 k l b (i : Int)) r ∧ (r = -1 ∨ (0 ≤ r ∧ r ≤ b ∧ ∀ x ∈ l.drop i, In_Label x)) := by
    refine from_index ?_ ?_
    · intro b hb0 hb1
      refine ⟨b, ?_, .inr ⟨hb0, Int.le_refl _, by rw [List.drop_length]; intro x hx; cases hx⟩⟩
      refine Ev.step (fun k => by rw [laws_szLabelS.l0]) ?_
      simp only [nat_nlt (Nat.le_refl _), if_false]
      exact Ev.now _
    · intro i hi ih b hb0 hb1
      obtain ⟨r1, e1, hr1⟩ := sz_Label l[i] (hf.2 _ (List.getElem_mem _)) b hb0 (by omega)
      rcases hr1 with hr1 | ⟨hr0, hrb, hin⟩
      · refine ⟨-1, ?_, .inl rfl⟩
        refine Ev.step (fun k => by rw [laws_szLabelS.l0]) ?_
        simp only [nat_lt hi, nat_pos, if_true, rdl_Label, getD_of hi]
        exact Ev.bind e1 (Ev.ifp (by omega) (Ev.now _))
      · obtain ⟨r2, e2, hr2⟩ := ih r1 hr0 (by omega)
        refine ⟨r2, ?_, ?_⟩
        · refine Ev.step (fun k => by rw [laws_szLabelS.l0]) ?_
          simp only [nat_lt hi, nat_pos, if_true, rdl_Label, getD_of hi, wrap_succ (show i < 9223372036854775807 by omega)]
          exact Ev.bind e1 (Ev.ifn (by omega) e2)
        · rcases hr2 with hr2 | ⟨h3, h4, h5⟩
          · exact .inl hr2
          · refine .inr ⟨h3, by omega, ?_⟩
            rw [drop_at hi]
            intro x hx
            rcases List.mem_cons.1 hx with rfl | hx
            · exact hin
            · exact h5 x hx
  obtain ⟨r, er, hr⟩ := key 0 (Nat.zero_le _) (a - (l.length : Int)) (by omega) (by omega)
  refine ⟨r, Ev.ifn c er, ?_⟩
  rcases hr with hr | ⟨h3, h4, h5⟩
  · exact .inl hr
  · exact .inr ⟨h3, by omega, by omega, by rwa [List.drop_zero] at h5⟩
theorem sz_Entry (x : S80) (hf : Fit80 x) (a : Int) (h0 : 0 ≤ a) (h1 : a ≤ 1048576) : ∃ r, Ev (fun k => laws_szEntry.f k x.f0 x.f1 x.f2 a) r ∧ (r = -1 ∨ (0 ≤ r ∧ r ≤ a ∧ In_Entry x)) := by
  unfold laws_szEntry.f
  obtain ⟨r0, er0, hr0⟩ := szs_Label x.f0 hf.1 a (by omega) (by omega)
  rcases hr0 with hr0 | hr0
  · refine ⟨-1, ?_, .inl rfl⟩
    exact Ev.bind er0 (Ev.ifp (by omega) (Ev.now _))
  refine ⟨r0, Ev.bind er0 (Ev.ifn (by omega) (Ev.now _)), .inr ⟨by omega, by omega, ⟨hr0.2.2.1, hr0.2.2.2⟩⟩⟩
theorem szs_Entry (l : List S80) (hf : FitList Fit80 l) (a : Int) (h0 : 0 ≤ a) (h1 : a ≤ 1048576) : ∃ r, Ev (fun k => laws_szEntryS.f k l a) r ∧ (r = -1 ∨ (0 ≤ r ∧ r ≤ a ∧ l.length ≤ 1048576 ∧ ∀ x ∈ l, In_Entry x)) := by
  have w : wrap64 (a - (l.length : Int)) = a - (l.length : Int) := wrap_sub h0 (by omega) hf.1
  unfold laws_szEntryS.f
  simp only [w]
  by_cases c : a - (l.length : Int) < 0
  · exact ⟨-1, Ev.ifp c (Ev.now _), .inl rfl⟩
  have key : ∀ i, i ≤ l.length → ∀ b : Int, 0 ≤ b → b ≤ a → ∃ r, Ev (fun k => laws_szEntryS.l0 k l b (i : Int)) r ∧ (r = -1 ∨ (0 ≤ r ∧ r ≤ b ∧ ∀ x ∈ l.drop i, In_Entry x)) := by
    refine from_index ?_ ?_
    · intro b hb0 hb1
      refine ⟨b, ?_, .inr ⟨hb0, Int.le_refl _, by rw [List.drop_length]; intro x hx; cases hx⟩⟩
      refine Ev.step (fun k => by rw [laws_szEntryS.l0]) ?_
      simp only [nat_nlt (Nat.le_refl _), if_false]
      exact Ev.now _
    · intro i hi ih b hb0 hb1
      obtain ⟨r1, e1, hr1⟩ := sz_Entry l[i] (hf.2 _ (List.getElem_mem _)) b hb0 (by omega)
      rcases hr1 with hr1 | ⟨hr0, hrb, hin⟩
      · refine ⟨-1, ?_, .inl rfl⟩
        refine Ev.step (fun k => by rw [laws_szEntryS.l0]) ?_
        simp only [nat_lt hi, nat_pos, if_true, rdl_Entry, getD_of hi]
        exact Ev.bind e1 (Ev.ifp (by omega) (Ev.now _))
      · obtain ⟨r2, e2, hr2⟩ := ih r1 hr0 (by omega)
        refine ⟨r2, ?_, ?_⟩
        · refine Ev.step (fun k => by rw [laws_szEntryS.l0]) ?_
          simp only [nat_lt hi, nat_pos, if_true, rdl_Entry, getD_of hi, wrap_succ (show i < 9223372036854775807 by omega)]
          exact Ev.bind e1 (Ev.ifn (by omega) e2)
        · rcases hr2 with hr2 | ⟨h3, h4, h5⟩
          · exact .inl hr2
          · refine .inr ⟨h3, by omega, ?_⟩
            rw [drop_at hi]
            intro x hx
            rcases List.mem_cons.1 hx with rfl | hx
            · exact hin
            · exact h5 x hx
  obtain ⟨r, er, hr⟩ := key 0 (Nat.zero_le _) (a - (l.length : Int)) (by omega) (by omega)
  refine ⟨r, Ev.ifn c er, ?_⟩
  rcases hr with hr | ⟨h3, h4, h5⟩
  · exact .inl hr
  · exact .inr ⟨h3, by omega, by omega, by rwa [List.drop_zero] at h5⟩
theorem to_Label (x : S140) (h : In_Label x) : Ev (fun k => laws_toLabel.f x.f0 x.f1) ((cv_Label x).f0, (cv_Label x).f1) := Ev.const rfl
theorem tos_Label (l : List S140) (hl : l.length ≤ 1048576) (h : ∀ x ∈ l, In_Label x) : Ev (fun k => laws_toLabelS.f k l) (l.map cv_Label) := by
  have hm : (l.map cv_Label).length = l.length := List.length_map _
  have key : ∀ i, i ≤ l.length → Ev (fun k => laws_toLabelS.l0 k l (fillTo (l.map cv_Label) z119 i) (i : Int)) (l.map cv_Label) := by
    refine from_index ?_ ?_
    · refine Ev.step (fun k => by rw [laws_toLabelS.l0]) ?_
      simp only [nat_nlt (Nat.le_refl _), if_false]
      exact Ev.const (by rw [← hm, fillTo_all])
    · intro i hi ih
      refine Ev.step (fun k => by rw [laws_toLabelS.l0]) ?_
      have e : (fillTo (l.map cv_Label) z119 i).length = l.length := by rw [fillTo_length _ _ _ (by omega), hm]
      simp only [nat_lt hi, nat_pos, if_true, rdl_Label, getD_of hi, wrap_succ (show i < 9223372036854775807 by omega), e, Int.toNat_natCast]
      refine Ev.bind (to_Label l[i] (h _ (List.getElem_mem _))) ?_
      have s := fillTo_set (l.map cv_Label) z119 i (by omega)
      rw [List.getElem_map] at s
      show Ev (fun k => laws_toLabelS.l0 k l ((fillTo (l.map cv_Label) z119 i).set i (cv_Label l[i])) ((i + 1 : Nat) : Int)) _
      rw [s]
      exact ih
  unfold laws_toLabelS.f
  refine Ev.ifp (by omega) (Ev.ifp (by simp; omega) ?_)
  have := key 0 (Nat.zero_le _)
  rw [fillTo_zero, hm] at this
  simp only [Int.toNat_natCast]
  exact this
theorem to_Entry (x : S80) (h : In_Entry x) : Ev (fun k => laws_toEntry.f k x.f0 x.f1 x.f2) ((cv_Entry x).f0, (cv_Entry x).f1, (cv_Entry x).f2) := by
  unfold laws_toEntry.f
  refine Ev.bind (tos_Label x.f0 h.1 h.2) ?_
  exact Ev.now _
theorem tos_Entry (l : List S80) (hl : l.length ≤ 1048576) (h : ∀ x ∈ l, In_Entry x) : Ev (fun k => laws_toEntryS.f k l) (l.map cv_Entry) := by
  have hm : (l.map cv_Entry).length = l.length := List.length_map _
  have key : ∀ i, i ≤ l.length → Ev (fun k => laws_toEntryS.l0 k l (fillTo (l.map cv_Entry) z66 i) (i : Int)) (l.map cv_Entry) := by
    refine from_index ?_ ?_
    · refine Ev.step (fun k => by rw [laws_toEntryS.l0]) ?_
      simp only [nat_nlt (Nat.le_refl _), if_false]
      exact Ev.const (by rw [← hm, fillTo_all])
    · intro i hi ih
      refine Ev.step (fun k => by rw [laws_toEntryS.l0]) ?_
      have e : (fillTo (l.map cv_Entry) z66 i).length = l.length := by rw [fillTo_length _ _ _ (by omega), hm]
      simp only [nat_lt hi, nat_pos, if_true, rdl_Entry, getD_of hi, wrap_succ (show i < 9223372036854775807 by omega), e, Int.toNat_natCast]
      refine Ev.bind (to_Entry l[i] (h _ (List.getElem_mem _))) ?_
      have s := fillTo_set (l.map cv_Entry) z66 i (by omega)
      rw [List.getElem_map] at s
      show Ev (fun k => laws_toEntryS.l0 k l ((fillTo (l.map cv_Entry) z66 i).set i (cv_Entry l[i])) ((i + 1 : Nat) : Int)) _
      rw [s]
      exact ih
  unfold laws_toEntryS.f
  refine Ev.ifp (by omega) (Ev.ifp (by simp; omega) ?_)
  have := key 0 (Nat.zero_le _)
  rw [fillTo_zero, hm] at this
  simp only [Int.toNat_natCast]
  exact this
theorem eq_Label (x : S119) (h : Bd_Label x) : Ev (fun k => laws_eqLabel.f x.f0 x.f1 x.f0 x.f1) true := by
  refine Ev.const ?_
  simp [laws_eqLabel.f]
theorem eqs_Label (l : List S119) (hl : l.length < 9223372036854775807) (h : ∀ x ∈ l, Bd_Label x) : Ev (fun k => laws_eqLabelS.f k l l) true := by
  have key : ∀ i, i ≤ l.length → Ev (fun k => laws_eqLabelS.l0 k l l (i : Int)) true := by
    refine from_index ?_ ?_
    · refine Ev.step (fun k => by rw [laws_eqLabelS.l0]) ?_
      simp only [nat_nlt (Nat.le_refl _), if_false]
      exact Ev.now _
    · intro i hi ih
      refine Ev.step (fun k => by rw [laws_eqLabelS.l0]) ?_
      simp only [nat_lt hi, nat_pos, if_true, rdi_Label, getD_of hi, wrap_succ (show i < 9223372036854775807 by omega)]
      refine Ev.bind (eq_Label l[i] (h _ (List.getElem_mem _))) (Ev.ifp rfl ?_)
      exact ih
  unfold laws_eqLabelS.f
  refine Ev.ifp rfl ?_
  exact key 0 (Nat.zero_le _)
theorem eq_Entry (x : S66) (h : Bd_Entry x) : Ev (fun k => laws_eqEntry.f k x.f0 x.f1 x.f2 x.f0 x.f1 x.f2) true := by
  unfold laws_eqEntry.f
  refine Ev.bind (eqs_Label x.f0 (by have := h.1; omega) h.2) (Ev.ifp rfl ?_)
  refine Ev.ifp rfl ?_
  refine Ev.ifp rfl ?_
  exact Ev.now _
theorem eqs_Entry (l : List S66) (hl : l.length < 9223372036854775807) (h : ∀ x ∈ l, Bd_Entry x) : Ev (fun k => laws_eqEntryS.f k l l) true := by
  have key : ∀ i, i ≤ l.length → Ev (fun k => laws_eqEntryS.l0 k l l (i : Int)) true := by
    refine from_index ?_ ?_
    · refine Ev.step (fun k => by rw [laws_eqEntryS.l0]) ?_
      simp only [nat_nlt (Nat.le_refl _), if_false]
      exact Ev.now _
    · intro i hi ih
      refine Ev.step (fun k => by rw [laws_eqEntryS.l0]) ?_
      simp only [nat_lt hi, nat_pos, if_true, rdi_Entry, getD_of hi, wrap_succ (show i < 9223372036854775807 by omega)]
      refine Ev.bind (eq_Entry l[i] (h _ (List.getElem_mem _))) (Ev.ifp rfl ?_)
      exact ih
  unfold laws_eqEntryS.f
  refine Ev.ifp rfl ?_
  exact key 0 (Nat.zero_le _)
theorem sz_Match (x : S83) (hf : Fit83 x) (a : Int) (h0 : 0 ≤ a) (h1 : a ≤ 1048576) : ∃ r, Ev (fun k => laws_szMatch.f x.f0 x.f1 x.f2 a) r ∧ (r = -1 ∨ (0 ≤ r ∧ r ≤ a ∧ In_Match x)) := by
  unfold laws_szMatch.f
  have hz1 : x.f1.size ≤ maxLen := hf.2.1
  have w1 : wrap64 (a - (x.f1.size : Int)) = a - (x.f1.size : Int) := wrap_sub (by omega) (by omega) hz1
  simp only [w1]
  by_cases c1 : a - (x.f1.size : Int) < 0
  · exact ⟨-1, Ev.ifp c1 (Ev.now _), .inl rfl⟩
  obtain ⟨b1, hb1⟩ : ∃ b, b = a - (x.f1.size : Int) := ⟨_, rfl⟩
  rw [← hb1] at c1
  simp only [← hb1]
  have hz2 : x.f2.size ≤ maxLen := hf.2.2
  have w2 : wrap64 (b1 - (x.f2.size : Int)) = b1 - (x.f2.size : Int) := wrap_sub (by omega) (by omega) hz2
  simp only [w2]
  by_cases c2 : b1 - (x.f2.size : Int) < 0
  · exact ⟨-1, Ev.ifn c1 (Ev.ifp c2 (Ev.now _)), .inl rfl⟩
  obtain ⟨b2, hb2⟩ : ∃ b, b = b1 - (x.f2.size : Int) := ⟨_, rfl⟩
  rw [← hb2] at c2
  simp only [← hb2]
  refine ⟨b2, Ev.ifn c1 (Ev.ifn c2 (Ev.now _)), .inr ⟨by omega, by omega, ⟨(show x.f1.size ≤ 1048576 by omega), (show x.f2.size ≤ 1048576 by omega)⟩⟩⟩
theorem szs_Match (l : List S83) (hf : FitList Fit83 l) (a : Int) (h0 : 0 ≤ a) (h1 : a ≤ 1048576) : ∃ r, Ev (fun k => laws_szMatchS.f k l a) r ∧ (r = -1 ∨ (0 ≤ r ∧ r ≤ a ∧ l.length ≤ 1048576 ∧ ∀ x ∈ l, In_Match x)) := by
  have w : wrap64 (a - (l.length : Int)) = a - (l.length : Int) := wrap_sub h0 (by omega) hf.1
  unfold laws_szMatchS.f
  simp only [w]
  by_cases c : a - (l.length : Int) < 0
  · exact ⟨-1, Ev.ifp c (Ev.now _), .inl rfl⟩
  have key : ∀ i, i ≤ l.length → ∀ b : Int, 0 ≤ b → b ≤ a → ∃ r, Ev (fun k => laws_szMatchS.l0 k l b (i : Int)) r ∧ (r = -1 ∨ (0 ≤ r ∧ r ≤ b ∧ ∀ x ∈ l.drop i, In_Match x)) := by
    refine from_index ?_ ?_
    · intro b hb0 hb1
      refine ⟨b, ?_, .inr ⟨hb0, Int.le_refl _, by rw [List.drop_length]; intro x hx; cases hx⟩⟩
      refine Ev.step (fun k => by rw [laws_szMatchS.l0]) ?_
      simp only [nat_nlt (Nat.le_refl _), if_false]
      exact Ev.now _
    · intro i hi ih b hb0 hb1
      obtain ⟨r1, e1, hr1⟩ := sz_Match l[i] (hf.2 _ (List.getElem_mem _)) b hb0 (by omega)
      rcases hr1 with hr1 | ⟨hr0, hrb, hin⟩
      · refine ⟨-1, ?_, .inl rfl⟩
        refine Ev.step (fun k => by rw [laws_szMatchS.l0]) ?_
        simp only [nat_lt hi, nat_pos, if_true, rdl_Match, getD_of hi]
        exact Ev.bind e1 (Ev.ifp (by omega) (Ev.now _))
      · obtain ⟨r2, e2, hr2⟩ := ih r1 hr0 (by omega)
        refine ⟨r2, ?_, ?_⟩
        · refine Ev.step (fun k => by rw [laws_szMatchS.l0]) ?_
          simp only [nat_lt hi, nat_pos, if_true, rdl_Match, getD_of hi, wrap_succ (show i < 9223372036854775807 by omega)]
          exact Ev.bind e1 (Ev.ifn (by omega) e2)
        · rcases hr2 with hr2 | ⟨h3, h4, h5⟩
          · exact .inl hr2
          · refine .inr ⟨h3, by omega, ?_⟩
            rw [drop_at hi]
            intro x hx
            rcases List.mem_cons.1 hx with rfl | hx
            · exact hin
            · exact h5 x hx
  obtain ⟨r, er, hr⟩ := key 0 (Nat.zero_le _) (a - (l.length : Int)) (by omega) (by omega)
  refine ⟨r, Ev.ifn c er, ?_⟩
  rcases hr with hr | ⟨h3, h4, h5⟩
  · exact .inl hr
  · exact .inr ⟨h3, by omega, by omega, by rwa [List.drop_zero] at h5⟩
theorem to_Match (x : S83) (h : In_Match x) : Ev (fun k => laws_toMatch.f x.f0 x.f1 x.f2) ((cv_Match x).f0, (cv_Match x).f1, (cv_Match x).f2) := Ev.const rfl
theorem tos_Match (l : List S83) (hl : l.length ≤ 1048576) (h : ∀ x ∈ l, In_Match x) : Ev (fun k => laws_toMatchS.f k l) (l.map cv_Match) := by
  have hm : (l.map cv_Match).length = l.length := List.length_map _
  have key : ∀ i, i ≤ l.length → Ev (fun k => laws_toMatchS.l0 k l (fillTo (l.map cv_Match) z89 i) (i : Int)) (l.map cv_Match) := by
    refine from_index ?_ ?_
    · refine Ev.step (fun k => by rw [laws_toMatchS.l0]) ?_
      simp only [nat_nlt (Nat.le_refl _), if_false]
      exact Ev.const (by rw [← hm, fillTo_all])
    · intro i hi ih
      refine Ev.step (fun k => by rw [laws_toMatchS.l0]) ?_
      have e : (fillTo (l.map cv_Match) z89 i).length = l.length := by rw [fillTo_length _ _ _ (by omega), hm]
      simp only [nat_lt hi, nat_pos, if_true, rdl_Match, getD_of hi, wrap_succ (show i < 9223372036854775807 by omega), e, Int.toNat_natCast]
      refine Ev.bind (to_Match l[i] (h _ (List.getElem_mem _))) ?_
      have s := fillTo_set (l.map cv_Match) z89 i (by omega)
      rw [List.getElem_map] at s
      show Ev (fun k => laws_toMatchS.l0 k l ((fillTo (l.map cv_Match) z89 i).set i (cv_Match l[i])) ((i + 1 : Nat) : Int)) _
      rw [s]
      exact ih
  unfold laws_toMatchS.f
  refine Ev.ifp (by omega) (Ev.ifp (by simp; omega) ?_)
  have := key 0 (Nat.zero_le _)
  rw [fillTo_zero, hm] at this
  simp only [Int.toNat_natCast]
  exact this
theorem eq_Match (x : S89) (h : Bd_Match x) : Ev (fun k => laws_eqMatch.f x.f0 x.f1 x.f2 x.f0 x.f1 x.f2) true := by
  refine Ev.const ?_
  simp [laws_eqMatch.f]
theorem eqs_Match (l : List S89) (hl : l.length < 9223372036854775807) (h : ∀ x ∈ l, Bd_Match x) : Ev (fun k => laws_eqMatchS.f k l l) true := by
  have key : ∀ i, i ≤ l.length → Ev (fun k => laws_eqMatchS.l0 k l l (i : Int)) true := by
    refine from_index ?_ ?_
    · refine Ev.step (fun k => by rw [laws_eqMatchS.l0]) ?_
      simp only [nat_nlt (Nat.le_refl _), if_false]
      exact Ev.now _
    · intro i hi ih
      refine Ev.step (fun k => by rw [laws_eqMatchS.l0]) ?_
      simp only [nat_lt hi, nat_pos, if_true, rdi_Match, getD_of hi, wrap_succ (show i < 9223372036854775807 by omega)]
      refine Ev.bind (eq_Match l[i] (h _ (List.getElem_mem _))) (Ev.ifp rfl ?_)
      exact ih
  unfold laws_eqMatchS.f
  refine Ev.ifp rfl ?_
  exact key 0 (Nat.zero_le _)

theorem sz_Rec_ev (x : S25) (hf : Fit25 x) : ∃ r, Ev (fun k => laws_szRec.f k x.f0 x.f1 x.f2 x.f3 x.f4 1048576) r ∧ (r = -1 ∨ (0 ≤ r ∧ (x.f1.length ≤ 1048576 ∧ ∀ y ∈ x.f1, In_Entry y) ∧ (x.f2.length ≤ 1048576 ∧ ∀ y ∈ x.f2, In_Match y))) := by
  unfold laws_szRec.f
  obtain ⟨r, er, hr⟩ := szs_Entry x.f1 hf.2.1 1048576 (by omega) (by omega)
  rcases hr with hr | ⟨g0, g1, g2⟩
  · exact ⟨-1, Ev.bind er (Ev.ifp (by omega) (Ev.now _)), .inl rfl⟩
  obtain ⟨q, eq, hq⟩ := szs_Match x.f2 hf.2.2.1 r g0 g1
  rcases hq with hq | ⟨k0, k1, k2⟩
  · exact ⟨-1, Ev.bind er (Ev.ifn (by omega) (Ev.bind eq (Ev.ifp (by omega) (Ev.now _)))), .inl rfl⟩
  · exact ⟨q, Ev.bind er (Ev.ifn (by omega) (Ev.bind eq (Ev.ifn (by omega) (Ev.now _)))), .inr ⟨k0, g2, k2⟩⟩
theorem FnExactRecOk : laws_FnExactRecOk.Pure := by
  intro x hf
  apply Ev.rounds
  unfold laws_FnExactRecOk.f
  obtain ⟨r, er, hr⟩ := sz_Rec_ev x hf
  refine Ev.bind er ?_
  rcases hr with hr | ⟨g0, ⟨e0, e1⟩, ⟨m0, m1⟩⟩
  · exact Ev.ifp (by omega) (Ev.now _)
  refine Ev.ifn (by omega) ?_
  have hm1 : (x.f1.map cv_Entry).length = x.f1.length := List.length_map _
  have hm2 : (x.f2.map cv_Match).length = x.f2.length := List.length_map _
  have bE := cvbds_Entry x.f1 e1
  have bM := cvbds_Match x.f2 m1
  have T : Ev (fun k => laws_toRec.f k x.f0 x.f1 x.f2 x.f3 x.f4) (x.f0, x.f1.map cv_Entry, x.f2.map cv_Match, x.f3, x.f4) := by
    unfold laws_toRec.f
    exact Ev.bind (tos_Entry x.f1 e0 e1) (Ev.bind (tos_Match x.f2 m0 m1) (Ev.now _))
  have hE : bdE (x.f1.map cv_Entry) = true := bdE_of _ (by omega) (fun y hy => bdL_of y.f0 (bE y hy).1 (bE y hy).2)
  have hM : bdM (x.f2.map cv_Match) = true := bdM_of _ (by omega) bM
  refine Ev.bind T (Ev.bind (spec_RecOk_ev _ _ _ _ _ hE hM) (Ev.bind T (Ev.bind (Ev.const (impl_RecOk_eq _ _ _ _ _ hE hM)) ?_)))
  refine Ev.ifn (by simp) (Ev.bind T (Ev.bind (a := true) ?_ (Ev.ifp rfl (Ev.now _))))
  unfold laws_eqRec.f
  refine Ev.ifp rfl (Ev.bind (eqs_Entry _ (by show (x.f1.map cv_Entry).length < _; omega) bE) (Ev.ifp rfl (Ev.bind (eqs_Match _ (by show (x.f2.map cv_Match).length < _; omega) bM) (Ev.ifp rfl (Ev.ifp rfl (Ev.ifp rfl (Ev.now _)))))))

end Go.Proofs.Ytfipeogppcllnaa.Pure
