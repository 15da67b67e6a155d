/- The program's DiskOk answers as the reference's, for every disk; no condition. -/
import Derived.Test.YtibkljplegpcdaaFitFnExactDiskOk
import Derived.Test.YtibkljplegpcdaaWOwn
set_option linter.unusedVariables false
set_option linter.unusedSimpArgs false
namespace Go.Proofs.Ytibkljplegpcdaa.Pure
open Go.RowKit Go.Proofs.Ytibkljplegpcdaa.QFnExactDiskOk Go.Proofs.YtibkljplegpcdaaW.PrintWords Go.Proofs.YtibkljplegpcdaaW.PrintLast Go.Proofs.YtibkljplegpcdaaW.Own

theorem nat_lt {i n : Nat} (h : i < n) : ((i : Int) < (n : Int)) = True := by simp [h]
theorem nat_nlt {i n : Nat} (h : n ≤ i) : ((i : Int) < (n : Int)) = False := by simp [h]
theorem nat_pos (i : Nat) : (0 ≤ (i : Int)) = True := by simp
theorem wrap_succ {i : Nat} (h : i < 9223372036854775807) : wrap64 ((i : Int) + 1) = ((i + 1 : Nat) : Int) := by unfold wrap64; omega
theorem wrap_pred {i : Nat} (h : i < 9223372036854775807) : wrap64 ((i : Int) - 1) = (i : Int) - 1 := by unfold wrap64; omega
theorem wrap_sub {a : Int} {n : Nat} (h0 : 0 ≤ a) (h1 : a ≤ 9223372036854775807) (hn : n ≤ maxLen) : wrap64 (a - (n : Int)) = a - (n : Int) := by unfold wrap64; unfold maxLen at hn; omega
theorem rd_nat (l : List Int) (i : Nat) : rd l (i : Int) = l.getD i 0 := rfl
theorem getD_of {α : Type} {l : List α} {i : Nat} (h : i < l.length) (d : α) : l.getD i d = l[i] := by simp [List.getD, List.getElem?_eq_getElem h]
theorem drop_at {α : Type} {l : List α} {i : Nat} (h : i < l.length) : l.drop i = l[i] :: l.drop (i + 1) := List.drop_eq_getElem_cons h
theorem bt_nat (s : ByteArray) (i : Nat) (h : i < s.size) : bt s (i : Int) = ((s[i]'h).toNat : Int) := by
  unfold bt
  have : (i : Int).toNat = i := by omega
  simp [h]
/-- From an index on: at the end, and one round. -/
theorem from_index {P : Nat → Prop} {n : Nat} (h0 : P n) (h1 : ∀ i, i < n → P (i + 1) → P i) : ∀ i, i ≤ n → P i := by
  have key : ∀ d i, i + d = n → P i := by
    intro d
    induction d with
    | zero => intro i h; obtain rfl : i = n := by omega
              exact h0
    | succ d ih => intro i h; exact h1 i (by omega) (ih (i + 1) (by omega))
  intro i hi
  exact key (n - i) i (by omega)
/-- A row that is filled from the front. -/
def fillTo {α : Type} (xs : List α) (z : α) (i : Nat) : List α := xs.take i ++ List.replicate (xs.length - i) z
theorem fillTo_length {α : Type} (xs : List α) (z : α) (i : Nat) (h : i ≤ xs.length) : (fillTo xs z i).length = xs.length := by
  unfold fillTo; rw [List.length_append, List.length_take, List.length_replicate]; omega
theorem fillTo_zero {α : Type} (xs : List α) (z : α) : fillTo xs z 0 = List.replicate xs.length z := by simp [fillTo]
theorem fillTo_all {α : Type} (xs : List α) (z : α) : fillTo xs z xs.length = xs := by simp [fillTo]
theorem fillTo_set {α : Type} (xs : List α) (z : α) (i : Nat) (h : i < xs.length) : (fillTo xs z i).set i xs[i] = fillTo xs z (i + 1) := by
  unfold fillTo
  have hl : (xs.take i).length = i := by rw [List.length_take]; omega
  have e : xs.length - i = (xs.length - (i + 1)) + 1 := by omega
  rw [e, List.replicate_succ, List.set_append_right _ _ (by omega), hl, Nat.sub_self, List.set_cons_zero, List.take_succ_eq_append_getElem h, List.append_assoc]
  rfl
def chainP {α : Type} (R : α → Bool) (lt : α → α → Bool) : Option α → List α → Bool
  | _, [] => true
  | p, x :: l => R x && (match p with | none => true | some q => lt q x) && chainP R lt (some x) l
def prevG {α : Type} (l : List α) (z : α) (i : Nat) : Option α := if i = 0 then none else some (l.getD (i - 1) z)
theorem chainP_cons {α : Type} (R : α → Bool) (lt : α → α → Bool) (p : Option α) (x : α) (l : List α) : chainP R lt p (x :: l) = (R x && (match p with | none => true | some q => lt q x) && chainP R lt (some x) l) := rfl
theorem prevG_succ {α : Type} (l : List α) (z : α) (i : Nat) (h : i < l.length) : prevG l z (i + 1) = some l[i] := by
  unfold prevG
  rw [if_neg (by omega), Nat.add_sub_cancel, getD_of h]
theorem chainP_step {α : Type} (R : α → Bool) (lt : α → α → Bool) (l : List α) (z : α) (i : Nat) (h : i < l.length) : chainP R lt (prevG l z i) (l.drop i) = (R l[i] && (if 0 < i then lt (l.getD (i - 1) z) l[i] else true) && chainP R lt (prevG l z (i + 1)) (l.drop (i + 1))) := by
  rw [drop_at h, chainP_cons, prevG_succ l z i h]
  by_cases hi : i = 0
  · subst hi; rfl
  · unfold prevG
    rw [if_neg hi, if_pos (by omega)]
def In_FileText (x : S120) : Prop := x.f1.size ≤ 1048576
def Bd_FileText (x : S100) : Prop := x.f1.size ≤ 1048576
def cv_FileText (x : S120) : S100 := ⟨x.f0, x.f1⟩
theorem rdl_FileText (l : List S120) (i : Nat) : rd_T120 l (i : Int) = l.getD i z120 := rfl
theorem rdi_FileText (l : List S100) (i : Nat) : rd_T100 l (i : Int) = l.getD i z100 := rfl
theorem rdp_FileText (l : List S100) (i : Nat) (h : 0 < i) : rd_T100 l ((i : Int) - 1) = l.getD (i - 1) z100 := by
  unfold rd_T100
  congr 1
  omega
theorem cvbd_FileText (x : S120) (h : In_FileText x) : Bd_FileText (cv_FileText x) := h
theorem cvbds_FileText (l : List S120) (h : ∀ x ∈ l, In_FileText x) : ∀ y ∈ l.map cv_FileText, Bd_FileText y := fun y hy => by obtain ⟨u, hu, rfl⟩ := List.mem_map.1 hy; exact cvbd_FileText u (h u hu)
theorem spec_l1In_eq (a b c : Int) : spec_l1In.f a b c = some (decide (b ≤ a ∧ a ≤ c)) := by
  unfold spec_l1In.f
  by_cases h : a ≥ b
  · rw [if_pos h]
    have h' : b ≤ a := h
    simp [h']
  · rw [if_neg h]
    have h' : ¬ b ≤ a := h
    simp [h']
abbrev Fil := S100
def fR (x : Fil) : Bool := decide (0 ≤ x.f0 ∧ x.f0 ≤ 9999)
def fLt (x y : Fil) : Bool := decide (x.f0 < y.f0)
def dok (lg : ByteArray) (fs : List Fil) : Bool := chainP fR fLt none fs && (decide ((lg.size : Int) ≤ 100000) && decide ((fs.length : Int) ≤ 240))
theorem impl_isNum_eq (a : Int) : impl_isNum.f a = some (decide (0 ≤ a ∧ a ≤ 9999)) := by
  unfold impl_isNum.f
  by_cases h : a ≥ 0
  · rw [if_pos h]; have h' : 0 ≤ a := h; simp [h']
  · rw [if_neg h]; have h' : ¬ 0 ≤ a := h; simp [h']
theorem spec_DiskOk_ev (lg ls : ByteArray) (fs : List Fil) (hl : fs.length < 9223372036854775807) : Ev (fun k => spec_DiskOk.f k lg ls fs) (dok lg fs) := by
  have key : ∀ i, i ≤ fs.length → Ev (fun k => spec_DiskOk.l0 k (i : Int) lg ls fs) (chainP fR fLt (prevG fs z100 i) (fs.drop i) && (decide ((lg.size : Int) ≤ 100000) && decide ((fs.length : Int) ≤ 240))) := by
    refine from_index ?_ ?_
    · refine Ev.step (fun k => by rw [spec_DiskOk.l0]) ?_
      simp only [nat_nlt (Nat.le_refl _), if_false]
      rw [List.drop_length]
      simp only [chainP, Bool.true_and]
      by_cases c : (lg.size : Int) ≤ 100000
      · refine Ev.ifp c (Ev.some_ ?_)
        simp [c]
      · refine Ev.ifn c (Ev.some_ ?_)
        simp [c]
    · intro i hi ih
      refine Ev.step (fun k => by rw [spec_DiskOk.l0]) ?_
      rw [chainP_step fR fLt fs z100 i hi]
      simp only [nat_lt hi, nat_pos, if_true, spec_l1In_eq, impl_isNum_eq, Option.bind_some, rdi_FileText, getD_of hi, wrap_succ (show i < 9223372036854775807 by omega), wrap_pred (show i < 9223372036854775807 by omega)]
      by_cases a : 0 ≤ (fs[i]).f0 ∧ (fs[i]).f0 ≤ 9999
      · have e : fR fs[i] = true := by simp [fR, a]
        refine Ev.ifp (by simp [a]) ?_
        simp only [e, Bool.true_and]
        by_cases c : 0 < i
        · refine Ev.ifp (by omega) (Ev.ifp (by omega) (Ev.ifp (by omega) ?_))
          simp only [rdp_FileText fs i c, if_pos c]
          by_cases g : (fs.getD (i - 1) z100).f0 < (fs[i]).f0
          · have e2 : fLt (fs.getD (i - 1) z100) fs[i] = true := by simp only [fLt, g, decide_true]
            simp only [e2, Bool.true_and]
            exact Ev.ifn (by omega) ih
          · have e2 : fLt (fs.getD (i - 1) z100) fs[i] = false := by simp only [fLt, g, decide_false]
            simp only [e2, Bool.false_and]
            exact Ev.ifp (by omega) (Ev.now _)
        · simp only [if_neg c, Bool.true_and]
          exact Ev.ifn (by omega) ih
      · have e : fR fs[i] = false := by simp only [fR, decide_eq_false_iff_not]; exact a
        simp only [e, Bool.false_and]
        exact Ev.ifn (by simpa using a) (Ev.now _)
  unfold spec_DiskOk.f
  have h := key 0 (Nat.zero_le _)
  exact h
theorem impl_DiskOk_ev (lg ls : ByteArray) (fs : List Fil) (hl : fs.length < 9223372036854775807) : Ev (fun k => impl_DiskOk.f k lg ls fs) (dok lg fs) := by
  have key : ∀ i, i ≤ fs.length → Ev (fun k => impl_DiskOk.l0 k fs (fs.length : Int) (i : Int) lg ls fs) (chainP fR fLt (prevG fs z100 i) (fs.drop i) && (decide ((lg.size : Int) ≤ 100000) && decide ((fs.length : Int) ≤ 240))) := by
    refine from_index ?_ ?_
    · refine Ev.step (fun k => by rw [impl_DiskOk.l0]) ?_
      simp only [nat_nlt (Nat.le_refl _), if_false]
      rw [List.drop_length]
      simp only [chainP, Bool.true_and]
      by_cases c : (lg.size : Int) ≤ 100000
      · refine Ev.ifp c (Ev.some_ ?_)
        simp [c]
      · refine Ev.ifn c (Ev.some_ ?_)
        simp [c]
    · intro i hi ih
      refine Ev.step (fun k => by rw [impl_DiskOk.l0]) ?_
      rw [chainP_step fR fLt fs z100 i hi]
      simp only [nat_lt hi, nat_pos, if_true, spec_l1In_eq, impl_isNum_eq, Option.bind_some, rdi_FileText, getD_of hi, wrap_succ (show i < 9223372036854775807 by omega), wrap_pred (show i < 9223372036854775807 by omega)]
      by_cases a : 0 ≤ (fs[i]).f0 ∧ (fs[i]).f0 ≤ 9999
      · have e : fR fs[i] = true := by simp [fR, a]
        refine Ev.ifp (by simp [a]) ?_
        simp only [e, Bool.true_and]
        by_cases c : 0 < i
        · refine Ev.ifp (by omega) (Ev.ifp (by omega) (Ev.ifp (by omega) ?_))
          simp only [rdp_FileText fs i c, if_pos c]
          by_cases g : (fs.getD (i - 1) z100).f0 < (fs[i]).f0
          · have e2 : fLt (fs.getD (i - 1) z100) fs[i] = true := by simp only [fLt, g, decide_true]
            simp only [e2, Bool.true_and]
            exact Ev.ifn (by omega) ih
          · have e2 : fLt (fs.getD (i - 1) z100) fs[i] = false := by simp only [fLt, g, decide_false]
            simp only [e2, Bool.false_and]
            exact Ev.ifp (by omega) (Ev.now _)
        · simp only [if_neg c, Bool.true_and]
          exact Ev.ifn (by omega) ih
      · have e : fR fs[i] = false := by simp only [fR, decide_eq_false_iff_not]; exact a
        simp only [e, Bool.false_and]
        exact Ev.ifn (by simpa using a) (Ev.now _)
  unfold impl_DiskOk.f
  have h := key 0 (Nat.zero_le _)
  exact h
theorem sz_FileText (x : S120) (hf : Fit120 x) (a : Int) (h0 : 0 ≤ a) (h1 : a ≤ 1048576) : ∃ r, Ev (fun k => laws_szFileText.f x.f0 x.f1 a) r ∧ (r = -1 ∨ (0 ≤ r ∧ r ≤ a ∧ In_FileText x)) := by
  unfold laws_szFileText.f
  have hz1 : x.f1.size ≤ maxLen := hf.2
  have w1 : wrap64 (a - (x.f1.size : Int)) = a - (x.f1.size : Int) := wrap_sub (by omega) (by omega) hz1
  simp only [w1]
  by_cases c1 : a - (x.f1.size : Int) < 0
  · exact ⟨-1, Ev.ifp c1 (Ev.now _), .inl rfl⟩
  obtain ⟨b1, hb1⟩ : ∃ b, b = a - (x.f1.size : Int) := ⟨_, rfl⟩
  rw [← hb1] at c1
  simp only [← hb1]
  refine ⟨b1, Ev.ifn c1 (Ev.now _), .inr ⟨by omega, by omega, (show x.f1.size ≤ 1048576 by omega)⟩⟩
theorem szs_FileText (l : List S120) (hf : FitList Fit120 l) (a : Int) (h0 : 0 ≤ a) (h1 : a ≤ 1048576) : ∃ r, Ev (fun k => laws_szFileTextS.f k l a) r ∧ (r = -1 ∨ (0 ≤ r ∧ r ≤ a ∧ l.length ≤ 1048576 ∧ ∀ x ∈ l, In_FileText x)) := by
  have w : wrap64 (a - (l.length : Int)) = a - (l.length : Int) := wrap_sub h0 (by omega) hf.1
  unfold laws_szFileTextS.f
  simp only [w]
  by_cases c : a - (l.length : Int) < 0
  · exact ⟨-1, Ev.ifp c (Ev.now _), .inl rfl⟩
  have key : ∀ i, i ≤ l.length → ∀ b : Int, 0 ≤ b → b ≤ a → ∃ r, Ev (fun k => laws_szFileTextS.l0 k l b (i : Int)) r ∧ (r = -1 ∨ (0 ≤ r ∧ r ≤ b ∧ ∀ x ∈ l.drop i, In_FileText x)) := by
    refine from_index ?_ ?_
    · intro b hb0 hb1
      refine ⟨b, ?_, .inr ⟨hb0, Int.le_refl _, by rw [List.drop_length]; intro x hx; cases hx⟩⟩
      refine Ev.step (fun k => by rw [laws_szFileTextS.l0]) ?_
      simp only [nat_nlt (Nat.le_refl _), if_false]
      exact Ev.now _
    · intro i hi ih b hb0 hb1
      obtain ⟨r1, e1, hr1⟩ := sz_FileText l[i] (hf.2 _ (List.getElem_mem _)) b hb0 (by omega)
      rcases hr1 with hr1 | ⟨hr0, hrb, hin⟩
      · refine ⟨-1, ?_, .inl rfl⟩
        refine Ev.step (fun k => by rw [laws_szFileTextS.l0]) ?_
        simp only [nat_lt hi, nat_pos, if_true, rdl_FileText, getD_of hi]
        exact Ev.bind e1 (Ev.ifp (by omega) (Ev.now _))
      · obtain ⟨r2, e2, hr2⟩ := ih r1 hr0 (by omega)
        refine ⟨r2, ?_, ?_⟩
        · refine Ev.step (fun k => by rw [laws_szFileTextS.l0]) ?_
          simp only [nat_lt hi, nat_pos, if_true, rdl_FileText, getD_of hi, wrap_succ (show i < 9223372036854775807 by omega)]
          exact Ev.bind e1 (Ev.ifn (by omega) e2)
        · rcases hr2 with hr2 | ⟨h3, h4, h5⟩
          · exact .inl hr2
          · refine .inr ⟨h3, by omega, ?_⟩
            rw [drop_at hi]
            intro x hx
            rcases List.mem_cons.1 hx with rfl | hx
            · exact hin
            · exact h5 x hx
  obtain ⟨r, er, hr⟩ := key 0 (Nat.zero_le _) (a - (l.length : Int)) (by omega) (by omega)
  refine ⟨r, Ev.ifn c er, ?_⟩
  rcases hr with hr | ⟨h3, h4, h5⟩
  · exact .inl hr
  · exact .inr ⟨h3, by omega, by omega, by rwa [List.drop_zero] at h5⟩
theorem to_FileText (x : S120) (h : In_FileText x) : Ev (fun k => laws_toFileText.f x.f0 x.f1) ((cv_FileText x).f0, (cv_FileText x).f1) := Ev.const rfl
theorem tos_FileText (l : List S120) (hl : l.length ≤ 1048576) (h : ∀ x ∈ l, In_FileText x) : Ev (fun k => laws_toFileTextS.f k l) (l.map cv_FileText) := by
  have hm : (l.map cv_FileText).length = l.length := List.length_map _
  have key : ∀ i, i ≤ l.length → Ev (fun k => laws_toFileTextS.l0 k l (fillTo (l.map cv_FileText) z100 i) (i : Int)) (l.map cv_FileText) := by
    refine from_index ?_ ?_
    · refine Ev.step (fun k => by rw [laws_toFileTextS.l0]) ?_
      simp only [nat_nlt (Nat.le_refl _), if_false]
      exact Ev.const (by rw [← hm, fillTo_all])
    · intro i hi ih
      refine Ev.step (fun k => by rw [laws_toFileTextS.l0]) ?_
      have e : (fillTo (l.map cv_FileText) z100 i).length = l.length := by rw [fillTo_length _ _ _ (by omega), hm]
      simp only [nat_lt hi, nat_pos, if_true, rdl_FileText, getD_of hi, wrap_succ (show i < 9223372036854775807 by omega), e, Int.toNat_natCast]
      refine Ev.bind (to_FileText l[i] (h _ (List.getElem_mem _))) ?_
      have s := fillTo_set (l.map cv_FileText) z100 i (by omega)
      rw [List.getElem_map] at s
      show Ev (fun k => laws_toFileTextS.l0 k l ((fillTo (l.map cv_FileText) z100 i).set i (cv_FileText l[i])) ((i + 1 : Nat) : Int)) _
      rw [s]
      exact ih
  unfold laws_toFileTextS.f
  refine Ev.ifp (by omega) (Ev.ifp (by simp; omega) ?_)
  have := key 0 (Nat.zero_le _)
  rw [fillTo_zero, hm] at this
  simp only [Int.toNat_natCast]
  exact this
theorem eq_FileText (x : S100) (h : Bd_FileText x) : Ev (fun k => laws_eqFileText.f x.f0 x.f1 x.f0 x.f1) true := by
  refine Ev.const ?_
  simp [laws_eqFileText.f]
theorem eqs_FileText (l : List S100) (hl : l.length < 9223372036854775807) (h : ∀ x ∈ l, Bd_FileText x) : Ev (fun k => laws_eqFileTextS.f k l l) true := by
  have key : ∀ i, i ≤ l.length → Ev (fun k => laws_eqFileTextS.l0 k l l (i : Int)) true := by
    refine from_index ?_ ?_
    · refine Ev.step (fun k => by rw [laws_eqFileTextS.l0]) ?_
      simp only [nat_nlt (Nat.le_refl _), if_false]
      exact Ev.now _
    · intro i hi ih
      refine Ev.step (fun k => by rw [laws_eqFileTextS.l0]) ?_
      simp only [nat_lt hi, nat_pos, if_true, rdi_FileText, getD_of hi, wrap_succ (show i < 9223372036854775807 by omega)]
      refine Ev.bind (eq_FileText l[i] (h _ (List.getElem_mem _))) (Ev.ifp rfl ?_)
      exact ih
  unfold laws_eqFileTextS.f
  refine Ev.ifp rfl ?_
  exact key 0 (Nat.zero_le _)

theorem sz_Disk_ev (x : S49) (hf : Fit49 x) : ∃ r, Ev (fun k => laws_szDisk.f k x.f0 x.f1 x.f2 1048576) r ∧ (r < 0 ∨ (x.f2.length ≤ 1048576 ∧ ∀ y ∈ x.f2, In_FileText y)) := by
  have w0 : wrap64 (1048576 - (x.f0.size : Int)) = 1048576 - (x.f0.size : Int) := wrap_sub (by omega) (by omega) hf.1
  unfold laws_szDisk.f
  simp only [w0]
  by_cases c0 : (1048576 : Int) - (x.f0.size : Int) < 0
  · exact ⟨-1, Ev.ifp c0 (Ev.now _), .inl (by omega)⟩
  have w1 : wrap64 (1048576 - (x.f0.size : Int) - (x.f1.size : Int)) = 1048576 - (x.f0.size : Int) - (x.f1.size : Int) := wrap_sub (by omega) (by omega) hf.2.1
  simp only [w1]
  by_cases c1 : (1048576 : Int) - (x.f0.size : Int) - (x.f1.size : Int) < 0
  · exact ⟨-1, Ev.ifn c0 (Ev.ifp c1 (Ev.now _)), .inl (by omega)⟩
  obtain ⟨r, er, hr⟩ := szs_FileText x.f2 hf.2.2 ((1048576 : Int) - (x.f0.size : Int) - (x.f1.size : Int)) (by omega) (by omega)
  rcases hr with hr | hr
  · exact ⟨-1, Ev.ifn c0 (Ev.ifn c1 (Ev.bind er (Ev.ifp (by omega) (Ev.now _)))), .inl (by omega)⟩
  · exact ⟨r, Ev.ifn c0 (Ev.ifn c1 (Ev.bind er (Ev.ifn (by omega) (Ev.now _)))), .inr hr.2.2⟩
theorem to_Disk_ev (x : S49) (hl : x.f2.length ≤ 1048576) (h : ∀ y ∈ x.f2, In_FileText y) : Ev (fun k => laws_toDisk.f k x.f0 x.f1 x.f2) (x.f0, x.f1, x.f2.map cv_FileText) := by
  unfold laws_toDisk.f
  exact Ev.bind (tos_FileText x.f2 hl h) (Ev.now _)
theorem FnExactDiskOk : laws_FnExactDiskOk.Pure := by
  intro x hf
  apply Ev.rounds
  unfold laws_FnExactDiskOk.f
  obtain ⟨r, er, hr⟩ := sz_Disk_ev x hf
  refine Ev.bind er ?_
  by_cases c : r < 0
  · exact Ev.ifp c (Ev.now _)
  · refine Ev.ifn c ?_
    rcases hr with hr | ⟨hl, hin⟩
    · exact absurd hr c
    have hm : (x.f2.map cv_FileText).length = x.f2.length := List.length_map _
    have ht := to_Disk_ev x hl hin
    refine Ev.bind ht ?_
    refine Ev.bind (spec_DiskOk_ev x.f0 x.f1 (x.f2.map cv_FileText) (by omega)) ?_
    refine Ev.bind ht ?_
    refine Ev.bind (impl_DiskOk_ev x.f0 x.f1 (x.f2.map cv_FileText) (by omega)) ?_
    refine Ev.ifn (by simp) ?_
    refine Ev.bind ht ?_
    refine Ev.bind (g := fun k => laws_eqDisk.f k x.f0 x.f1 (x.f2.map cv_FileText) x.f0 x.f1 (x.f2.map cv_FileText)) (a := true) ?_ (Ev.ifp rfl (Ev.now _))
    unfold laws_eqDisk.f
    refine Ev.ifp rfl (Ev.ifp rfl ?_)
    refine Ev.bind (eqs_FileText _ (by omega) (cvbds_FileText _ hin)) ?_
    exact Ev.ifp rfl (Ev.now _)

end Go.Proofs.Ytibkljplegpcdaa.Pure
