/- The program's LabelsOk answers as the reference's, for every list of labels; no condition. -/
import Derived.Test.YtibkljplegpcdaaFitFnExactLabelsOk
import Derived.Test.YtibkljplegpcdaaWOwn
set_option linter.unusedVariables false
set_option linter.unusedSimpArgs false
namespace Go.Proofs.Ytibkljplegpcdaa.Pure
open Go.RowKit Go.Proofs.Ytibkljplegpcdaa.QFnExactLabelsOk Go.Proofs.YtibkljplegpcdaaW.PrintWords Go.Proofs.YtibkljplegpcdaaW.PrintLast Go.Proofs.YtibkljplegpcdaaW.Own

theorem nat_lt {i n : Nat} (h : i < n) : ((i : Int) < (n : Int)) = True := by simp [h]
theorem nat_nlt {i n : Nat} (h : n ≤ i) : ((i : Int) < (n : Int)) = False := by simp [h]
theorem nat_pos (i : Nat) : (0 ≤ (i : Int)) = True := by simp
theorem wrap_succ {i : Nat} (h : i < 9223372036854775807) : wrap64 ((i : Int) + 1) = ((i + 1 : Nat) : Int) := by unfold wrap64; omega
theorem wrap_pred {i : Nat} (h : i < 9223372036854775807) : wrap64 ((i : Int) - 1) = (i : Int) - 1 := by unfold wrap64; omega
theorem wrap_sub {a : Int} {n : Nat} (h0 : 0 ≤ a) (h1 : a ≤ 9223372036854775807) (hn : n ≤ maxLen) : wrap64 (a - (n : Int)) = a - (n : Int) := by unfold wrap64; unfold maxLen at hn; omega
theorem rd_nat (l : List Int) (i : Nat) : rd l (i : Int) = l.getD i 0 := rfl
theorem getD_of {α : Type} {l : List α} {i : Nat} (h : i < l.length) (d : α) : l.getD i d = l[i] := by simp [List.getD, List.getElem?_eq_getElem h]
theorem drop_at {α : Type} {l : List α} {i : Nat} (h : i < l.length) : l.drop i = l[i] :: l.drop (i + 1) := List.drop_eq_getElem_cons h
theorem bt_nat (s : ByteArray) (i : Nat) (h : i < s.size) : bt s (i : Int) = ((s[i]'h).toNat : Int) := by
  unfold bt
  have : (i : Int).toNat = i := by omega
  simp [h]
/-- From an index on: at the end, and one round. -/
theorem from_index {P : Nat → Prop} {n : Nat} (h0 : P n) (h1 : ∀ i, i < n → P (i + 1) → P i) : ∀ i, i ≤ n → P i := by
  have key : ∀ d i, i + d = n → P i := by
    intro d
    induction d with
    | zero => intro i h; obtain rfl : i = n := by omega
              exact h0
    | succ d ih => intro i h; exact h1 i (by omega) (ih (i + 1) (by omega))
  intro i hi
  exact key (n - i) i (by omega)
/-- A row that is filled from the front. -/
def fillTo {α : Type} (xs : List α) (z : α) (i : Nat) : List α := xs.take i ++ List.replicate (xs.length - i) z
theorem fillTo_length {α : Type} (xs : List α) (z : α) (i : Nat) (h : i ≤ xs.length) : (fillTo xs z i).length = xs.length := by
  unfold fillTo; rw [List.length_append, List.length_take, List.length_replicate]; omega
theorem fillTo_zero {α : Type} (xs : List α) (z : α) : fillTo xs z 0 = List.replicate xs.length z := by simp [fillTo]
theorem fillTo_all {α : Type} (xs : List α) (z : α) : fillTo xs z xs.length = xs := by simp [fillTo]
theorem fillTo_set {α : Type} (xs : List α) (z : α) (i : Nat) (h : i < xs.length) : (fillTo xs z i).set i xs[i] = fillTo xs z (i + 1) := by
  unfold fillTo
  have hl : (xs.take i).length = i := by rw [List.length_take]; omega
  have e : xs.length - i = (xs.length - (i + 1)) + 1 := by omega
  rw [e, List.replicate_succ, List.set_append_right _ _ (by omega), hl, Nat.sub_self, List.set_cons_zero, List.take_succ_eq_append_getElem h, List.append_assoc]
  rfl
def In_Label (x : S80) : Prop := x.f0.size ≤ 1048576 ∧ x.f1.size ≤ 1048576
def Bd_Label (x : S82) : Prop := x.f0.size ≤ 1048576 ∧ x.f1.size ≤ 1048576
def cv_Label (x : S80) : S82 := ⟨x.f0, x.f1⟩
theorem rdl_Label (l : List S80) (i : Nat) : rd_T80 l (i : Int) = l.getD i z80 := rfl
theorem rdi_Label (l : List S82) (i : Nat) : rd_T82 l (i : Int) = l.getD i z82 := rfl
theorem rdp_Label (l : List S82) (i : Nat) (h : 0 < i) : rd_T82 l ((i : Int) - 1) = l.getD (i - 1) z82 := by
  unfold rd_T82
  congr 1
  omega
theorem cvbd_Label (x : S80) (h : In_Label x) : Bd_Label (cv_Label x) := ⟨h.1, h.2⟩
theorem cvbds_Label (l : List S80) (h : ∀ x ∈ l, In_Label x) : ∀ y ∈ l.map cv_Label, Bd_Label y := fun y hy => by obtain ⟨u, hu, rfl⟩ := List.mem_map.1 hy; exact cvbd_Label u (h u hu)
theorem bdL_of (l : List Lbl) (hl : l.length ≤ 1048576) (h : ∀ x ∈ l, Bd_Label x) : bdL l = true := by
  unfold bdL
  rw [decide_eq_true (show l.length < 9223372036854775807 by omega), Bool.true_and]
  refine List.all_eq_true.2 fun x hx => ?_
  have hb := h x hx
  unfold Bd_Label at hb
  simp only [bdS, decide_eq_true (show x.f0.size < 9223372036854775807 by omega), decide_eq_true (show x.f1.size < 9223372036854775807 by omega), Bool.and_self]
theorem spec_LabelsOk_eq (l : List Lbl) (h : bdL l = true) : spec_LabelsOk.f l = some (labelsB l) := by unfold spec_LabelsOk.f; rw [if_pos h]
theorem impl_LabelsOk_eq (l : List Lbl) (h : bdL l = true) : impl_LabelsOk.f l = some (labelsB l) := by unfold impl_LabelsOk.f; rw [if_pos h]
theorem sz_Label (x : S80) (hf : Fit80 x) (a : Int) (h0 : 0 ≤ a) (h1 : a ≤ 1048576) : ∃ r, Ev (fun k => laws_szLabel.f x.f0 x.f1 a) r ∧ (r = -1 ∨ (0 ≤ r ∧ r ≤ a ∧ In_Label x)) := by
  unfold laws_szLabel.f
  have hz0 : x.f0.size ≤ maxLen := hf.1
  have w0 : wrap64 (a - (x.f0.size : Int)) = a - (x.f0.size : Int) := wrap_sub (by omega) (by omega) hz0
  simp only [w0]
  by_cases c0 : a - (x.f0.size : Int) < 0
  · exact ⟨-1, Ev.ifp c0 (Ev.now _), .inl rfl⟩
  obtain ⟨b0, hb0⟩ : ∃ b, b = a - (x.f0.size : Int) := ⟨_, rfl⟩
  rw [← hb0] at c0
  simp only [← hb0]
  have hz1 : x.f1.size ≤ maxLen := hf.2
  have w1 : wrap64 (b0 - (x.f1.size : Int)) = b0 - (x.f1.size : Int) := wrap_sub (by omega) (by omega) hz1
  simp only [w1]
  by_cases c1 : b0 - (x.f1.size : Int) < 0
  · exact ⟨-1, Ev.ifn c0 (Ev.ifp c1 (Ev.now _)), .inl rfl⟩
  obtain ⟨b1, hb1⟩ : ∃ b, b = b0 - (x.f1.size : Int) := ⟨_, rfl⟩
  rw [← hb1] at c1
  simp only [← hb1]
  refine ⟨b1, Ev.ifn c0 (Ev.ifn c1 (Ev.now _)), .inr ⟨by omega, by omega, ⟨(show x.f0.size ≤ 1048576 by omega), (show x.f1.size ≤ 1048576 by omega)⟩⟩⟩
theorem szs_Label (l : List S80) (hf : FitList Fit80 l) (a : Int) (h0 : 0 ≤ a) (h1 : a ≤ 1048576) : ∃ r, Ev (fun k => laws_szLabelS.f k l a) r ∧ (r = -1 ∨ (0 ≤ r ∧ r ≤ a ∧ l.length ≤ 1048576 ∧ ∀ x ∈ l, In_Label x)) := by
  have w : wrap64 (a - (l.length : Int)) = a - (l.length : Int) := wrap_sub h0 (by omega) hf.1
  unfold laws_szLabelS.f
  simp only [w]
  by_cases c : a - (l.length : Int) < 0
  · exact ⟨-1, Ev.ifp c (Ev.now _), .inl rfl⟩
  have key : ∀ i, i ≤ l.length → ∀ b : Int, 0 ≤ b → b ≤ a → ∃ r, Ev (fun k => laws_szLabelS.l0 k l b (i : Int)) r ∧ (r = -1 ∨ (0 ≤ r ∧ r ≤ b ∧ ∀ x ∈ l.drop i, In_Label x)) := by
    refine from_index ?_ ?_
    · intro b hb0 hb1
      refine ⟨b, ?_, .inr ⟨hb0, Int.le_refl _, by rw [List.drop_length]; intro x hx; cases hx⟩⟩
      refine Ev.step (fun k => by rw [laws_szLabelS.l0]) ?_
      simp only [nat_nlt (Nat.le_refl _), if_false]
      exact Ev.now _
    · intro i hi ih b hb0 hb1
      obtain ⟨r1, e1, hr1⟩ := sz_Label l[i] (hf.2 _ (List.getElem_mem _)) b hb0 (by omega)
      rcases hr1 with hr1 | ⟨hr0, hrb, hin⟩
      · refine ⟨-1, ?_, .inl rfl⟩
        refine Ev.step (fun k => by rw [laws_szLabelS.l0]) ?_
        simp only [nat_lt hi, nat_pos, if_true, rdl_Label, getD_of hi]
        exact Ev.bind e1 (Ev.ifp (by omega) (Ev.now _))
      · obtain ⟨r2, e2, hr2⟩ := ih r1 hr0 (by omega)
        refine ⟨r2, ?_, ?_⟩
        · refine Ev.step (fun k => by rw [laws_szLabelS.l0]) ?_
          simp only [nat_lt hi, nat_pos, if_true, rdl_Label, getD_of hi, wrap_succ (show i < 9223372036854775807 by omega)]
          exact Ev.bind e1 (Ev.ifn (by omega) e2)
        · rcases hr2 with hr2 | ⟨h3, h4, h5⟩
          · exact .inl hr2
          · refine .inr ⟨h3, by omega, ?_⟩
            rw [drop_at hi]
            intro x hx
            rcases List.mem_cons.1 hx with rfl | hx
            · exact hin
            · exact h5 x hx
  obtain ⟨r, er, hr⟩ := key 0 (Nat.zero_le _) (a - (l.length : Int)) (by omega) (by omega)
  refine ⟨r, Ev.ifn c er, ?_⟩
  rcases hr with hr | ⟨h3, h4, h5⟩
  · exact .inl hr
  · exact .inr ⟨h3, by omega, by omega, by rwa [List.drop_zero] at h5⟩
theorem to_Label (x : S80) (h : In_Label x) : Ev (fun k => laws_toLabel.f x.f0 x.f1) ((cv_Label x).f0, (cv_Label x).f1) := Ev.const rfl
theorem tos_Label (l : List S80) (hl : l.length ≤ 1048576) (h : ∀ x ∈ l, In_Label x) : Ev (fun k => laws_toLabelS.f k l) (l.map cv_Label) := by
  have hm : (l.map cv_Label).length = l.length := List.length_map _
  have key : ∀ i, i ≤ l.length → Ev (fun k => laws_toLabelS.l0 k l (fillTo (l.map cv_Label) z82 i) (i : Int)) (l.map cv_Label) := by
    refine from_index ?_ ?_
    · refine Ev.step (fun k => by rw [laws_toLabelS.l0]) ?_
      simp only [nat_nlt (Nat.le_refl _), if_false]
      exact Ev.const (by rw [← hm, fillTo_all])
    · intro i hi ih
      refine Ev.step (fun k => by rw [laws_toLabelS.l0]) ?_
      have e : (fillTo (l.map cv_Label) z82 i).length = l.length := by rw [fillTo_length _ _ _ (by omega), hm]
      simp only [nat_lt hi, nat_pos, if_true, rdl_Label, getD_of hi, wrap_succ (show i < 9223372036854775807 by omega), e, Int.toNat_natCast]
      refine Ev.bind (to_Label l[i] (h _ (List.getElem_mem _))) ?_
      have s := fillTo_set (l.map cv_Label) z82 i (by omega)
      rw [List.getElem_map] at s
      show Ev (fun k => laws_toLabelS.l0 k l ((fillTo (l.map cv_Label) z82 i).set i (cv_Label l[i])) ((i + 1 : Nat) : Int)) _
      rw [s]
      exact ih
  unfold laws_toLabelS.f
  refine Ev.ifp (by omega) (Ev.ifp (by simp; omega) ?_)
  have := key 0 (Nat.zero_le _)
  rw [fillTo_zero, hm] at this
  simp only [Int.toNat_natCast]
  exact this
theorem eq_Label (x : S82) (h : Bd_Label x) : Ev (fun k => laws_eqLabel.f x.f0 x.f1 x.f0 x.f1) true := by
  refine Ev.const ?_
  simp [laws_eqLabel.f]
theorem eqs_Label (l : List S82) (hl : l.length < 9223372036854775807) (h : ∀ x ∈ l, Bd_Label x) : Ev (fun k => laws_eqLabelS.f k l l) true := by
  have key : ∀ i, i ≤ l.length → Ev (fun k => laws_eqLabelS.l0 k l l (i : Int)) true := by
    refine from_index ?_ ?_
    · refine Ev.step (fun k => by rw [laws_eqLabelS.l0]) ?_
      simp only [nat_nlt (Nat.le_refl _), if_false]
      exact Ev.now _
    · intro i hi ih
      refine Ev.step (fun k => by rw [laws_eqLabelS.l0]) ?_
      simp only [nat_lt hi, nat_pos, if_true, rdi_Label, getD_of hi, wrap_succ (show i < 9223372036854775807 by omega)]
      refine Ev.bind (eq_Label l[i] (h _ (List.getElem_mem _))) (Ev.ifp rfl ?_)
      exact ih
  unfold laws_eqLabelS.f
  refine Ev.ifp rfl ?_
  exact key 0 (Nat.zero_le _)

theorem FnExactLabelsOk : laws_FnExactLabelsOk.Pure := by
  intro l hfit
  apply Ev.rounds
  unfold laws_FnExactLabelsOk.f
  obtain ⟨r, er, hr⟩ := szs_Label l hfit 1048576 (by omega) (by omega)
  refine Ev.bind er ?_
  rcases hr with hr | ⟨h0, _, hl, hin⟩
  · exact Ev.ifp (by omega) (Ev.now _)
  · refine Ev.ifn (by omega) ?_
    have hm : (l.map cv_Label).length = l.length := List.length_map _
    have hb := bdL_of (l.map cv_Label) (by omega) (cvbds_Label l hin)
    refine Ev.bind (tos_Label l hl hin) ?_
    refine Ev.bind (Ev.const (spec_LabelsOk_eq _ hb)) ?_
    refine Ev.bind (tos_Label l hl hin) ?_
    refine Ev.bind (Ev.const (impl_LabelsOk_eq _ hb)) ?_
    refine Ev.ifn (by simp) ?_
    refine Ev.bind (tos_Label l hl hin) ?_
    refine Ev.bind (eqs_Label _ (by omega) (cvbds_Label l hin)) ?_
    exact Ev.ifp rfl (Ev.now _)

end Go.Proofs.Ytibkljplegpcdaa.Pure
