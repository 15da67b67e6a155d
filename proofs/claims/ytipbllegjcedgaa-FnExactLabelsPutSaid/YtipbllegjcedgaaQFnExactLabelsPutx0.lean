-- Written by wip/tools/mk.py (this session's program, which runs the kit's print): functions, and proofs that the machine's calls do what they say.
import Derived.Test.YtipbllegjcedgaaProg
import Derived.Below
import Derived.Deep.Draws
import Derived.Deep.AppendLies
import Derived.Maps.AppendAt
import Derived.OwnWalk
import Derived.Laws.BytesArg
import Derived.Laws.MakeOwn
import Derived.Laws.OwnMore
import Derived.Deep.OwnRows
import Derived.Tactics
import Derived.Lib.ConvBytes
import Derived.Laws.Slices
import Derived.WalkKit
import Derived.KernelRfl
import Derived.RowKit3
import Derived.Deep.LoopGhost
import Derived.Deep.QuietTactic
import Derived.BigQuiet
import Derived.WideLaws
import Derived.Deep.DeepCutAuto
import Derived.Deep.CutBlock
import Derived.Deep.RegionHeld3
import Derived.Laws.Rows
import Derived.Lib.AppendStr
import Derived.ArgAppend
import Derived.Laws.IdiomCopy
import Derived.OrdersHeld
import Derived.Laws.BitsLemmas
import Derived.RowKit
import Derived.Laws.Cover1
import Derived.Shelf.Strings.OnBuilder
import Derived.Test.YtipbllegjcedgaaWWords
import Derived.Test.YtipbllegjcedgaaWLast
import Derived.Test.YtipbllegjcedgaaWTab
import Derived.Test.YtipbllegjcedgaaWQPut
import Derived.Test.YtipbllegjcedgaaWApart
import Derived.Test.YtipbllegjcedgaaWArr
import Derived.Test.YtipbllegjcedgaaWZeros
import Derived.Test.YtipbllegjcedgaaWFoot
import Derived.Test.YtipbllegjcedgaaWKept
import Derived.Test.YtipbllegjcedgaaWShare
import Derived.Test.YtipbllegjcedgaaWN
import Derived.Test.YtipbllegjcedgaaWGuard
import Derived.Test.YtipbllegjcedgaaWNEv
import Derived.Test.YtipbllegjcedgaaWMore
import Derived.Test.YtipbllegjcedgaaWOwn
namespace Go.Proofs.Ytipbllegjcedgaa.QFnExactLabelsPut
open Go.RowKit Go.Proofs.YtipbllegjcedgaaW.PrintWords Go.Proofs.YtipbllegjcedgaaW.PrintLast Go.Proofs.YtipbllegjcedgaaW.PrintMore
attribute [local go_sem] IntKind.wrap_u8 max2_int min2_int max_two min_two max_three min_three max_four min_four   -- for this text's walks alone
set_option linter.unusedVariables false
set_option linter.unusedSimpArgs false



def errW : Option Int → Value
  | none => .nilIface
  | some c => .iface 0 (.int .i64 c)
theorem errW_none : errW none = .nilIface := rfl
theorem errW_some (c : Int) : errW (some c) = .iface 0 (.int .i64 c) := rfl

theorem info9 : (Try.prog.info? 9).map (fun i => (i.zero, i.size, i.bytes)) = some (some (.string ⟨#[]⟩), 1, 16) := by kernel_rfl
theorem info52 : (Try.prog.info? 52).map (fun i => (i.zero, i.size, i.bytes)) = some (some (.agg #[(.string ⟨#[]⟩), (.string ⟨#[]⟩)]), 2, 32) := by kernel_rfl
-- the values' own types
/-! #### struct type 62 -/
structure S62 where
  f0 : ByteArray
  f1 : ByteArray
def z62 : S62 := ⟨(⟨#[]⟩ : ByteArray), (⟨#[]⟩ : ByteArray)⟩
def k62 : Kd S62 := Kd.iso (Kd.pair Kd.string Kd.string) (fun x : S62 => (x.f0, x.f1))
theorem k62_open {w : World} {x : S62} {cs : List Value} (h : k62.K w x cs) : cs = [.string x.f0, .string x.f1] := by
  obtain ⟨_, _, rfl, rfl, rfl⟩ := h
  exact rfl
theorem k62_openM {w : World} {base : Nat} {ok : Nat → Prop} {x : S62} {cs : List Value} (h : k62.M w base ok x cs) : cs = [.string x.f0, .string x.f1] := by
  obtain ⟨_, _, rfl, rfl, rfl⟩ := h
  exact rfl
theorem k62_mk (w : World) (x : S62)  : k62.K w x [.string x.f0, .string x.f1] := ⟨[.string x.f0], [.string x.f1], rfl, rfl, rfl⟩
theorem k62_mkM (w : World) (base : Nat) (ok : Nat → Prop) (x : S62)  : k62.M w base ok x [.string x.f0, .string x.f1] := ⟨[.string x.f0], [.string x.f1], rfl, rfl, rfl⟩
def rd_T62 (xs : List S62) (i : Int) : S62 := xs.getD i.toNat z62
theorem at_T62 {w : World} {A : Option Addr} {n : Nat} {xs : List S62} (h : Kd.C k62 w A n xs) (i : Int) (h0 : 0 ≤ i) (h1 : i < n) : ∃ ad , A = some ad ∧ w.cell? (ad.add (i.toNat * 2)) = some (.string (rd_T62 xs i).f0) ∧ w.cell? ⟨(ad.add (i.toNat * 2)).block, (ad.add (i.toNat * 2)).off + 1, none⟩ = some (.string (rd_T62 xs i).f1) := by
  obtain ⟨ad, c, e, _, hK, hc0⟩ := Kd.C_get h z62 i h0 h1
  have hc : ∀ j u, c[j]? = some u → w.cell? (ad.add (i.toNat * 2 + j)) = some u := hc0
  obtain rfl := k62_open hK
  exact ⟨ad, e, hc 0 _ rfl, by rw [← add_field _ _ 1 (by omega)]; exact hc 1 _ rfl⟩

/-! #### struct type 52 -/
structure S52 where
  f0 : ByteArray
  f1 : ByteArray
def z52 : S52 := ⟨(⟨#[]⟩ : ByteArray), (⟨#[]⟩ : ByteArray)⟩
def k52 : Kd S52 := Kd.iso (Kd.pair Kd.string Kd.string) (fun x : S52 => (x.f0, x.f1))
theorem k52_open {w : World} {x : S52} {cs : List Value} (h : k52.K w x cs) : cs = [.string x.f0, .string x.f1] := by
  obtain ⟨_, _, rfl, rfl, rfl⟩ := h
  exact rfl
theorem k52_openM {w : World} {base : Nat} {ok : Nat → Prop} {x : S52} {cs : List Value} (h : k52.M w base ok x cs) : cs = [.string x.f0, .string x.f1] := by
  obtain ⟨_, _, rfl, rfl, rfl⟩ := h
  exact rfl
theorem k52_mk (w : World) (x : S52)  : k52.K w x [.string x.f0, .string x.f1] := ⟨[.string x.f0], [.string x.f1], rfl, rfl, rfl⟩
theorem k52_mkM (w : World) (base : Nat) (ok : Nat → Prop) (x : S52)  : k52.M w base ok x [.string x.f0, .string x.f1] := ⟨[.string x.f0], [.string x.f1], rfl, rfl, rfl⟩
def rd_T52 (xs : List S52) (i : Int) : S52 := xs.getD i.toNat z52
theorem at_T52 {w : World} {A : Option Addr} {n : Nat} {xs : List S52} (h : Kd.C k52 w A n xs) (i : Int) (h0 : 0 ≤ i) (h1 : i < n) : ∃ ad , A = some ad ∧ w.cell? (ad.add (i.toNat * 2)) = some (.string (rd_T52 xs i).f0) ∧ w.cell? ⟨(ad.add (i.toNat * 2)).block, (ad.add (i.toNat * 2)).off + 1, none⟩ = some (.string (rd_T52 xs i).f1) := by
  obtain ⟨ad, c, e, _, hK, hc0⟩ := Kd.C_get h z52 i h0 h1
  have hc : ∀ j u, c[j]? = some u → w.cell? (ad.add (i.toNat * 2 + j)) = some u := hc0
  obtain rfl := k52_open hK
  exact ⟨ad, e, hc 0 _ rfl, by rw [← add_field _ _ 1 (by omega)]; exact hc 1 _ rfl⟩

def rd_L5 (xs : List (List S52)) (i : Int) : (List S52) := xs.getD i.toNat ([] : List S52)
theorem at_L5 {w : World} {A : Option Addr} {n : Nat} {xs : List (List S52)} (h : Kd.C (Kd.slice 52 k52) w A n xs) (i : Int) (h0 : 0 ≤ i) (h1 : i < n) : ∃ ad A0 c0, A = some ad ∧ w.cell? (ad.add i.toNat) = some (.slice A0 (rd_L5 xs i).length c0) ∧ (rd_L5 xs i).length ≤ c0 ∧ k52.C w A0 (rd_L5 xs i).length (rd_L5 xs i) := by
  obtain ⟨ad, c, e, _, hK, hc0⟩ := Kd.C_get h ([] : List S52) i h0 h1
  have hc : ∀ j u, c[j]? = some u → w.cell? (ad.add (i.toNat * 1 + j)) = some u := hc0
  obtain ⟨A0, c0, rfl, l0, g0⟩ := hK
  exact ⟨ad, A0, c0, e, by have hq := hc 0 _ rfl; rwa [Nat.mul_one, Nat.add_zero] at hq, l0, g0⟩

def rd_L6 (xs : List (List ByteArray)) (i : Int) : (List ByteArray) := xs.getD i.toNat ([] : List ByteArray)
theorem at_L6 {w : World} {A : Option Addr} {n : Nat} {xs : List (List ByteArray)} (h : Kd.C (Kd.slice 9 Kd.string) w A n xs) (i : Int) (h0 : 0 ≤ i) (h1 : i < n) : ∃ ad A0 c0, A = some ad ∧ w.cell? (ad.add i.toNat) = some (.slice A0 (rd_L6 xs i).length c0) ∧ (rd_L6 xs i).length ≤ c0 ∧ Kd.string.C w A0 (rd_L6 xs i).length (rd_L6 xs i) := by
  obtain ⟨ad, c, e, _, hK, hc0⟩ := Kd.C_get h ([] : List ByteArray) i h0 h1
  have hc : ∀ j u, c[j]? = some u → w.cell? (ad.add (i.toNat * 1 + j)) = some u := hc0
  obtain ⟨A0, c0, rfl, l0, g0⟩ := hK
  exact ⟨ad, A0, c0, e, by have hq := hc 0 _ rfl; rwa [Nat.mul_one, Nat.add_zero] at hq, l0, g0⟩

def rd_L7 (xs : List (List S62)) (i : Int) : (List S62) := xs.getD i.toNat ([] : List S62)
theorem at_L7 {w : World} {A : Option Addr} {n : Nat} {xs : List (List S62)} (h : Kd.C (Kd.slice 62 k62) w A n xs) (i : Int) (h0 : 0 ≤ i) (h1 : i < n) : ∃ ad A0 c0, A = some ad ∧ w.cell? (ad.add i.toNat) = some (.slice A0 (rd_L7 xs i).length c0) ∧ (rd_L7 xs i).length ≤ c0 ∧ k62.C w A0 (rd_L7 xs i).length (rd_L7 xs i) := by
  obtain ⟨ad, c, e, _, hK, hc0⟩ := Kd.C_get h ([] : List S62) i h0 h1
  have hc : ∀ j u, c[j]? = some u → w.cell? (ad.add (i.toNat * 1 + j)) = some u := hc0
  obtain ⟨A0, c0, rfl, l0, g0⟩ := hK
  exact ⟨ad, A0, c0, e, by have hq := hc 0 _ rfl; rwa [Nat.mul_one, Nat.add_zero] at hq, l0, g0⟩

def isL (c : UInt8) : Bool := decide (97 ≤ (c.toNat : Int) ∧ (c.toNat : Int) ≤ 122)
def lettersB (s : ByteArray) (n : Int) : Bool := s.data.toList.all isL && decide ((s.size : Int) ≤ n)
theorem letters_size (s : ByteArray) : s.data.toList.length = s.size := by rw [Array.length_toList]; rfl
theorem letters_bt (s : ByteArray) (k : Nat) (h : k < s.size) : bt s (k : Int) = (((s.data.toList[k]'(by rw [letters_size]; exact h)).toNat : Nat) : Int) := by
  unfold bt
  have e : (k : Int).toNat = k := by omega
  rw [dif_pos (by rw [e]; exact h)]
  rfl
theorem letters_no (s : ByteArray) (k : Nat) (h : k < s.size) (hb : ¬ (97 ≤ bt s (k : Int) ∧ bt s (k : Int) ≤ 122)) (n : Int) : lettersB s n = false := by
  have hk : k < s.data.toList.length := by rw [letters_size]; exact h
  have e := letters_bt s k h
  have : s.data.toList.all isL = false := by
    rw [List.all_eq_false]
    refine ⟨_, List.getElem_mem hk, ?_⟩
    unfold isL
    rw [e] at hb
    simpa using hb
  unfold lettersB
  rw [this, Bool.false_and]
theorem letters_step (s : ByteArray) (k : Nat) (h : k < s.size) (h0 : (s.data.toList.take k).all isL = true) (hb : 97 ≤ bt s (k : Int) ∧ bt s (k : Int) ≤ 122) : (s.data.toList.take (k + 1)).all isL = true := by
  have hk : k < s.data.toList.length := by rw [letters_size]; exact h
  rw [List.take_succ_eq_append_getElem hk, List.all_append, h0, Bool.true_and]
  have e := letters_bt s k h
  rw [e] at hb
  rw [List.all_cons, List.all_nil, Bool.and_true]
  exact decide_eq_true hb
theorem letters_end (s : ByteArray) (h0 : (s.data.toList.take s.size).all isL = true) (n : Int) : lettersB s n = decide ((s.size : Int) ≤ n) := by
  rw [← letters_size, List.take_length] at h0
  unfold lettersB
  rw [h0, Bool.true_and]
def bdS (s : ByteArray) : Bool := decide (s.size < 9223372036854775807)

def chainP {α : Type} (R : α → Bool) (lt : α → α → Bool) : Option α → List α → Bool
  | _, [] => true
  | p, x :: l => R x && (match p with | none => true | some q => lt q x) && chainP R lt (some x) l
def prevG {α : Type} (l : List α) (z : α) (i : Nat) : Option α := if i = 0 then none else some (l.getD (i - 1) z)
theorem chainP_cons {α : Type} (R : α → Bool) (lt : α → α → Bool) (p : Option α) (x : α) (l : List α) : chainP R lt p (x :: l) = (R x && (match p with | none => true | some q => lt q x) && chainP R lt (some x) l) := rfl
theorem getD_at {α : Type} {l : List α} {i : Nat} (h : i < l.length) (d : α) : l.getD i d = l[i] := by simp [List.getD, List.getElem?_eq_getElem h]
theorem prevG_succ {α : Type} (l : List α) (z : α) (i : Nat) (h : i < l.length) : prevG l z (i + 1) = some l[i] := by
  unfold prevG
  rw [if_neg (by omega), Nat.add_sub_cancel, getD_at h]
theorem chainP_step {α : Type} (R : α → Bool) (lt : α → α → Bool) (l : List α) (z : α) (i : Nat) (h : i < l.length) : chainP R lt (prevG l z i) (l.drop i) = (R l[i] && (if 0 < i then lt (l.getD (i - 1) z) l[i] else true) && chainP R lt (prevG l z (i + 1)) (l.drop (i + 1))) := by
  rw [List.drop_eq_getElem_cons h, chainP_cons, prevG_succ l z i h]
  by_cases hi : i = 0
  · subst hi; rfl
  · unfold prevG
    rw [if_neg hi, if_pos (by omega)]
theorem chainP_no1 {α : Type} (R : α → Bool) (lt : α → α → Bool) (l : List α) (z : α) (i : Nat) (h : i < l.length) (hR : R (l.getD i z) = false) : chainP R lt (prevG l z i) (l.drop i) = false := by
  rw [getD_at h] at hR
  rw [chainP_step R lt l z i h, hR, Bool.false_and, Bool.false_and]
theorem chainP_no2 {α : Type} (R : α → Bool) (lt : α → α → Bool) (l : List α) (z : α) (i : Nat) (h : i < l.length) (h0 : 0 < i) (hl : lt (l.getD (i - 1) z) (l.getD i z) = false) : chainP R lt (prevG l z i) (l.drop i) = false := by
  rw [getD_at h z] at hl
  rw [chainP_step R lt l z i h, if_pos h0, hl, Bool.and_false, Bool.false_and]
theorem chainP_on0 {α : Type} (R : α → Bool) (lt : α → α → Bool) (l : List α) (z : α) (h : 0 < l.length) (hR : R (l.getD 0 z) = true) : chainP R lt (prevG l z 0) (l.drop 0) = chainP R lt (prevG l z 1) (l.drop 1) := by
  rw [getD_at h] at hR
  rw [chainP_step R lt l z 0 h, hR, if_neg (Nat.lt_irrefl 0), Bool.true_and, Bool.true_and]
theorem chainP_on {α : Type} (R : α → Bool) (lt : α → α → Bool) (l : List α) (z : α) (i : Nat) (h : i < l.length) (h0 : 0 < i) (hR : R (l.getD i z) = true) (hl : lt (l.getD (i - 1) z) (l.getD i z) = true) : chainP R lt (prevG l z i) (l.drop i) = chainP R lt (prevG l z (i + 1)) (l.drop (i + 1)) := by
  rw [getD_at h z] at hl hR
  rw [chainP_step R lt l z i h, hR, if_pos h0, hl, Bool.true_and, Bool.true_and]
theorem chainP_end {α : Type} (R : α → Bool) (lt : α → α → Bool) (l : List α) (p : Option α) (i : Nat) (h : l.length ≤ i) : chainP R lt p (l.drop i) = true := by
  rw [List.drop_eq_nil_of_le h]
  rfl
theorem quiet_D {P : Program} {f : FuncId} {args : Array Value} {w : World} {n : Nat} {v : Value} (h : Calls P f args (w.drewN n) fun e w' => e = .returned v ∧ Drawn0 (w.drewN n) w') : Calls P f args (w.drewN n) fun e w'' => e = .returned v ∧ ∃ m, w'' = w.drewN m :=
  Calls.quiet_of (h.mono fun _ _ ⟨h1, h2⟩ => ⟨h1, h2.out⟩)

abbrev Lbl := S52
def lblR (x : Lbl) : Bool := (lettersB x.f0 6 && (x.f0.toList != [])) && lettersB x.f1 8 && (x.f1.toList != [])
def lblLt (q x : Lbl) : Bool := Op.bytesLess q.f0.toList x.f0.toList
def labelsB (l : List Lbl) : Bool := chainP lblR lblLt none l && decide (1 ≤ l.length ∧ l.length ≤ 4)
def bdL (l : List Lbl) : Bool := decide (l.length < 9223372036854775807) && l.all fun x => bdS x.f0 && bdS x.f1
theorem bdL_len {l : List Lbl} (h : bdL l = true) : l.length < 9223372036854775807 := by
  unfold bdL at h
  exact of_decide_eq_true (Bool.and_eq_true _ _ ▸ h).1
theorem bdL_at {l : List Lbl} (h : bdL l = true) {x : Lbl} (hx : x ∈ l) : x.f0.size < 9223372036854775807 ∧ x.f1.size < 9223372036854775807 := by
  unfold bdL at h
  have h2 := (Bool.and_eq_true _ _ ▸ h).2
  have h3 := List.all_eq_true.1 h2 x hx
  have h4 := (Bool.and_eq_true _ _ ▸ h3)
  exact ⟨of_decide_eq_true h4.1, of_decide_eq_true h4.2⟩

end Go.Proofs.Ytipbllegjcedgaa.QFnExactLabelsPut
