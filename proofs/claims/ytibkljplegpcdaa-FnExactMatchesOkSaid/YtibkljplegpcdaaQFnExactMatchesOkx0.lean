-- Written by wip/tools/mk.py (this session's program, which runs the kit's print): functions, and proofs that the machine's calls do what they say.
import Derived.Test.YtibkljplegpcdaaProg
import Derived.Below
import Derived.Deep.Draws
import Derived.Deep.AppendLies
import Derived.Maps.AppendAt
import Derived.OwnWalk
import Derived.Laws.BytesArg
import Derived.Laws.MakeOwn
import Derived.Laws.OwnMore
import Derived.Deep.OwnRows
import Derived.Tactics
import Derived.Lib.ConvBytes
import Derived.Laws.Slices
import Derived.WalkKit
import Derived.KernelRfl
import Derived.RowKit3
import Derived.Deep.LoopGhost
import Derived.Deep.QuietTactic
import Derived.BigQuiet
import Derived.WideLaws
import Derived.Deep.DeepCutAuto
import Derived.Deep.CutBlock
import Derived.Deep.RegionHeld3
import Derived.Laws.Rows
import Derived.Lib.AppendStr
import Derived.ArgAppend
import Derived.Laws.IdiomCopy
import Derived.OrdersHeld
import Derived.Laws.BitsLemmas
import Derived.RowKit
import Derived.Test.YtibkljplegpcdaaWWords
import Derived.Test.YtibkljplegpcdaaWLast
import Derived.Test.YtibkljplegpcdaaWTab
import Derived.Test.YtibkljplegpcdaaWFour
import Derived.Test.YtibkljplegpcdaaWQPut
import Derived.Test.YtibkljplegpcdaaWApart
import Derived.Test.YtibkljplegpcdaaWArr
import Derived.Test.YtibkljplegpcdaaWZeros
import Derived.Test.YtibkljplegpcdaaWFoot
import Derived.Test.YtibkljplegpcdaaWKept
import Derived.Test.YtibkljplegpcdaaWShare
import Derived.Test.YtibkljplegpcdaaWN
import Derived.Test.YtibkljplegpcdaaWFootNe
import Derived.Test.YtibkljplegpcdaaWAt
import Derived.Test.YtibkljplegpcdaaWEqStruct
import Derived.Test.YtibkljplegpcdaaWRepsOne
import Derived.Test.YtibkljplegpcdaaWInv
import Derived.Test.YtibkljplegpcdaaWInvWords
import Derived.Test.YtibkljplegpcdaaWGuard
import Derived.Test.YtibkljplegpcdaaWNEv
import Derived.Test.YtibkljplegpcdaaWMore
import Derived.Test.YtibkljplegpcdaaWOwn
namespace Go.Proofs.Ytibkljplegpcdaa.QFnExactMatchesOk
open Go.RowKit Go.Proofs.YtibkljplegpcdaaW.PrintWords Go.Proofs.YtibkljplegpcdaaW.PrintLast Go.Proofs.YtibkljplegpcdaaW.PrintMore
attribute [local go_sem] IntKind.wrap_u8 max2_int min2_int max_two min_two max_three min_three max_four min_four   -- for this text's walks alone
set_option linter.unusedVariables false
set_option linter.unusedSimpArgs false



def errW : Option Int → Value
  | none => .nilIface
  | some c => .iface 0 (.int .i64 c)
theorem errW_none : errW none = .nilIface := rfl
theorem errW_some (c : Int) : errW (some c) = .iface 0 (.int .i64 c) := rfl

theorem info90 : (Try.prog.info? 90).map (fun i => (i.zero, i.size, i.bytes)) = some (some (.agg #[(.int .i64 0), (.string ⟨#[]⟩), (.string ⟨#[]⟩)]), 3, 40) := by kernel_rfl
-- the values' own types
/-! #### struct type 89 -/
structure S89 where
  f0 : Int
  f1 : ByteArray
  f2 : ByteArray
def z89 : S89 := ⟨(0 : Int), (⟨#[]⟩ : ByteArray), (⟨#[]⟩ : ByteArray)⟩
def k89 : Kd S89 := Kd.iso (Kd.pair (Kd.int .i64) (Kd.pair Kd.string Kd.string)) (fun x : S89 => (x.f0, x.f1, x.f2))
theorem k89_open {w : World} {x : S89} {cs : List Value} (h : k89.K w x cs) : cs = [.int .i64 x.f0, .string x.f1, .string x.f2] := by
  obtain ⟨_, _, rfl, rfl, ⟨_, _, rfl, rfl, rfl⟩⟩ := h
  exact rfl
theorem k89_openM {w : World} {base : Nat} {ok : Nat → Prop} {x : S89} {cs : List Value} (h : k89.M w base ok x cs) : cs = [.int .i64 x.f0, .string x.f1, .string x.f2] := by
  obtain ⟨_, _, rfl, rfl, ⟨_, _, rfl, rfl, rfl⟩⟩ := h
  exact rfl
theorem k89_mk (w : World) (x : S89)  : k89.K w x [.int .i64 x.f0, .string x.f1, .string x.f2] := ⟨[.int .i64 x.f0], [.string x.f1, .string x.f2], rfl, rfl, ⟨[.string x.f1], [.string x.f2], rfl, rfl, rfl⟩⟩
theorem k89_mkM (w : World) (base : Nat) (ok : Nat → Prop) (x : S89)  : k89.M w base ok x [.int .i64 x.f0, .string x.f1, .string x.f2] := ⟨[.int .i64 x.f0], [.string x.f1, .string x.f2], rfl, rfl, ⟨[.string x.f1], [.string x.f2], rfl, rfl, rfl⟩⟩
def rd_T89 (xs : List S89) (i : Int) : S89 := xs.getD i.toNat z89
theorem at_T89 {w : World} {A : Option Addr} {n : Nat} {xs : List S89} (h : Kd.C k89 w A n xs) (i : Int) (h0 : 0 ≤ i) (h1 : i < n) : ∃ ad , A = some ad ∧ w.cell? (ad.add (i.toNat * 3)) = some (.int .i64 (rd_T89 xs i).f0) ∧ w.cell? ⟨(ad.add (i.toNat * 3)).block, (ad.add (i.toNat * 3)).off + 1, none⟩ = some (.string (rd_T89 xs i).f1) ∧ w.cell? ⟨(ad.add (i.toNat * 3)).block, (ad.add (i.toNat * 3)).off + 2, none⟩ = some (.string (rd_T89 xs i).f2) := by
  obtain ⟨ad, c, e, _, hK, hc0⟩ := Kd.C_get h z89 i h0 h1
  have hc : ∀ j u, c[j]? = some u → w.cell? (ad.add (i.toNat * 3 + j)) = some u := hc0
  obtain rfl := k89_open hK
  exact ⟨ad, e, hc 0 _ rfl, by rw [← add_field _ _ 1 (by omega)]; exact hc 1 _ rfl, by rw [← add_field _ _ 2 (by omega)]; exact hc 2 _ rfl⟩

/-! #### struct type 90 -/
structure S90 where
  f0 : Int
  f1 : ByteArray
  f2 : ByteArray
def z90 : S90 := ⟨(0 : Int), (⟨#[]⟩ : ByteArray), (⟨#[]⟩ : ByteArray)⟩
def k90 : Kd S90 := Kd.iso (Kd.pair (Kd.int .i64) (Kd.pair Kd.string Kd.string)) (fun x : S90 => (x.f0, x.f1, x.f2))
theorem k90_open {w : World} {x : S90} {cs : List Value} (h : k90.K w x cs) : cs = [.int .i64 x.f0, .string x.f1, .string x.f2] := by
  obtain ⟨_, _, rfl, rfl, ⟨_, _, rfl, rfl, rfl⟩⟩ := h
  exact rfl
theorem k90_openM {w : World} {base : Nat} {ok : Nat → Prop} {x : S90} {cs : List Value} (h : k90.M w base ok x cs) : cs = [.int .i64 x.f0, .string x.f1, .string x.f2] := by
  obtain ⟨_, _, rfl, rfl, ⟨_, _, rfl, rfl, rfl⟩⟩ := h
  exact rfl
theorem k90_mk (w : World) (x : S90)  : k90.K w x [.int .i64 x.f0, .string x.f1, .string x.f2] := ⟨[.int .i64 x.f0], [.string x.f1, .string x.f2], rfl, rfl, ⟨[.string x.f1], [.string x.f2], rfl, rfl, rfl⟩⟩
theorem k90_mkM (w : World) (base : Nat) (ok : Nat → Prop) (x : S90)  : k90.M w base ok x [.int .i64 x.f0, .string x.f1, .string x.f2] := ⟨[.int .i64 x.f0], [.string x.f1, .string x.f2], rfl, rfl, ⟨[.string x.f1], [.string x.f2], rfl, rfl, rfl⟩⟩
def rd_T90 (xs : List S90) (i : Int) : S90 := xs.getD i.toNat z90
theorem at_T90 {w : World} {A : Option Addr} {n : Nat} {xs : List S90} (h : Kd.C k90 w A n xs) (i : Int) (h0 : 0 ≤ i) (h1 : i < n) : ∃ ad , A = some ad ∧ w.cell? (ad.add (i.toNat * 3)) = some (.int .i64 (rd_T90 xs i).f0) ∧ w.cell? ⟨(ad.add (i.toNat * 3)).block, (ad.add (i.toNat * 3)).off + 1, none⟩ = some (.string (rd_T90 xs i).f1) ∧ w.cell? ⟨(ad.add (i.toNat * 3)).block, (ad.add (i.toNat * 3)).off + 2, none⟩ = some (.string (rd_T90 xs i).f2) := by
  obtain ⟨ad, c, e, _, hK, hc0⟩ := Kd.C_get h z90 i h0 h1
  have hc : ∀ j u, c[j]? = some u → w.cell? (ad.add (i.toNat * 3 + j)) = some u := hc0
  obtain rfl := k90_open hK
  exact ⟨ad, e, hc 0 _ rfl, by rw [← add_field _ _ 1 (by omega)]; exact hc 1 _ rfl, by rw [← add_field _ _ 2 (by omega)]; exact hc 2 _ rfl⟩

def rd_L5 (xs : List (List S90)) (i : Int) : (List S90) := xs.getD i.toNat ([] : List S90)
theorem at_L5 {w : World} {A : Option Addr} {n : Nat} {xs : List (List S90)} (h : Kd.C (Kd.slice 90 k90) w A n xs) (i : Int) (h0 : 0 ≤ i) (h1 : i < n) : ∃ ad A0 c0, A = some ad ∧ w.cell? (ad.add i.toNat) = some (.slice A0 (rd_L5 xs i).length c0) ∧ (rd_L5 xs i).length ≤ c0 ∧ k90.C w A0 (rd_L5 xs i).length (rd_L5 xs i) := by
  obtain ⟨ad, c, e, _, hK, hc0⟩ := Kd.C_get h ([] : List S90) i h0 h1
  have hc : ∀ j u, c[j]? = some u → w.cell? (ad.add (i.toNat * 1 + j)) = some u := hc0
  obtain ⟨A0, c0, rfl, l0, g0⟩ := hK
  exact ⟨ad, A0, c0, e, by have hq := hc 0 _ rfl; rwa [Nat.mul_one, Nat.add_zero] at hq, l0, g0⟩

def rd_L6 (xs : List (List S89)) (i : Int) : (List S89) := xs.getD i.toNat ([] : List S89)
theorem at_L6 {w : World} {A : Option Addr} {n : Nat} {xs : List (List S89)} (h : Kd.C (Kd.slice 89 k89) w A n xs) (i : Int) (h0 : 0 ≤ i) (h1 : i < n) : ∃ ad A0 c0, A = some ad ∧ w.cell? (ad.add i.toNat) = some (.slice A0 (rd_L6 xs i).length c0) ∧ (rd_L6 xs i).length ≤ c0 ∧ k89.C w A0 (rd_L6 xs i).length (rd_L6 xs i) := by
  obtain ⟨ad, c, e, _, hK, hc0⟩ := Kd.C_get h ([] : List S89) i h0 h1
  have hc : ∀ j u, c[j]? = some u → w.cell? (ad.add (i.toNat * 1 + j)) = some u := hc0
  obtain ⟨A0, c0, rfl, l0, g0⟩ := hK
  exact ⟨ad, A0, c0, e, by have hq := hc 0 _ rfl; rwa [Nat.mul_one, Nat.add_zero] at hq, l0, g0⟩

def isL (c : UInt8) : Bool := decide (97 ≤ (c.toNat : Int) ∧ (c.toNat : Int) ≤ 122)
def lettersB (s : ByteArray) (n : Int) : Bool := s.data.toList.all isL && decide ((s.size : Int) ≤ n)
theorem letters_size (s : ByteArray) : s.data.toList.length = s.size := by rw [Array.length_toList]; rfl
theorem letters_bt (s : ByteArray) (k : Nat) (h : k < s.size) : bt s (k : Int) = (((s.data.toList[k]'(by rw [letters_size]; exact h)).toNat : Nat) : Int) := by
  unfold bt
  have e : (k : Int).toNat = k := by omega
  rw [dif_pos (by rw [e]; exact h)]
  rfl
theorem letters_no (s : ByteArray) (k : Nat) (h : k < s.size) (hb : ¬ (97 ≤ bt s (k : Int) ∧ bt s (k : Int) ≤ 122)) (n : Int) : lettersB s n = false := by
  have hk : k < s.data.toList.length := by rw [letters_size]; exact h
  have e := letters_bt s k h
  have : s.data.toList.all isL = false := by
    rw [List.all_eq_false]
    refine ⟨_, List.getElem_mem hk, ?_⟩
    unfold isL
    rw [e] at hb
    simpa using hb
  unfold lettersB
  rw [this, Bool.false_and]
theorem letters_step (s : ByteArray) (k : Nat) (h : k < s.size) (h0 : (s.data.toList.take k).all isL = true) (hb : 97 ≤ bt s (k : Int) ∧ bt s (k : Int) ≤ 122) : (s.data.toList.take (k + 1)).all isL = true := by
  have hk : k < s.data.toList.length := by rw [letters_size]; exact h
  rw [List.take_succ_eq_append_getElem hk, List.all_append, h0, Bool.true_and]
  have e := letters_bt s k h
  rw [e] at hb
  rw [List.all_cons, List.all_nil, Bool.and_true]
  exact decide_eq_true hb
theorem letters_end (s : ByteArray) (h0 : (s.data.toList.take s.size).all isL = true) (n : Int) : lettersB s n = decide ((s.size : Int) ≤ n) := by
  rw [← letters_size, List.take_length] at h0
  unfold lettersB
  rw [h0, Bool.true_and]
def bdS (s : ByteArray) : Bool := decide (s.size < 9223372036854775807)

abbrev Mch := S90
def letV (k : Int) (wd : ByteArray) : Value := if k = 1 then .iface 115 (.agg #[.string wd]) else if k = 2 then .iface 116 (.agg #[.string wd]) else if k = 3 then .iface 117 (.agg #[.string wd]) else if k = 4 then .iface 118 (.agg #[.string wd]) else .nilIface
def mchB (x : Mch) : Bool := (decide (1 ≤ x.f0) && decide (x.f0 ≤ 4)) && (lettersB x.f1 6 && (x.f1.toList != [])) && lettersB x.f2 8
def mchsB (l : List Mch) : Bool := decide (l.length ≤ 4) && l.all mchB
def bdM (l : List Mch) : Bool := decide (l.length < 9223372036854775807) && l.all fun x => bdS x.f1 && bdS x.f2
def mchA (x : Mch) : Value := .agg #[.int .i64 x.f0, .string x.f1, .string x.f2]
theorem bdM_len {l : List Mch} (h : bdM l = true) : l.length < 9223372036854775807 := by
  unfold bdM at h
  exact of_decide_eq_true (Bool.and_eq_true _ _ ▸ h).1
theorem bdM_at {l : List Mch} (h : bdM l = true) {x : Mch} (hx : x ∈ l) : x.f1.size < 9223372036854775807 ∧ x.f2.size < 9223372036854775807 := by
  unfold bdM at h
  have h2 := (Bool.and_eq_true _ _ ▸ h).2
  have h3 := List.all_eq_true.1 h2 x hx
  have h4 := (Bool.and_eq_true _ _ ▸ h3)
  exact ⟨of_decide_eq_true h4.1, of_decide_eq_true h4.2⟩
theorem any_step {α : Type} (P : α → Bool) (l : List α) (z : α) (k : Nat) (h : k < l.length) : (l.drop k).any P = (P (l.getD k z) || (l.drop (k + 1)).any P) := by
  rw [List.drop_eq_getElem_cons h, List.any_cons]
  congr 2
  simp [List.getD, h]

def callv_ : Unit := ()
theorem goesV_ {P : Program} {ops : Array Oper} {Q : Exit → Act → World → Prop} {rest : List Oper} {oi : Oper} {a : Act} {w : World} (N : Option Tmp) (hd : oi.dst = N) (hg : oi.guard = none) {x : Operand} {f : FuncId} {cap : Array Value} {fn : Func} {xs : Array Operand} {ts : Array TypeId}
    (hop : oi.op = .call { callee := .value x, args := xs, argTypes := ts }) (hx : a.eval x = .func (.func f) #[] cap) (hf : P.funcs[f]? = some fn) (hname : (fn.name == "runtime.NumGoroutine") = false) (hb : fn.body.isSome = true) (args : Array Value) (hargs : xs.map a.eval ++ cap = args)
    (h : Calls P f args w fun e w' => ∃ v, e = .returned v ∧ wpList P ops Q rest (a.put N v) w') : wpList P ops Q (oi :: rest) a w := by
  refine wpList_plain hg fun K hK => ?_
  have he := enters_ hf hname hb args w
  have hrun : (execOp a.eval oi).run P w = .ok (.enter f args) w := by
    unfold execOp
    simp [hop, hx, resolve, Deferred.ofValue, invoke, hargs, he]
  unfold Oper.wp
  rw [hrun, Oper.upon_enter]
  refine h.mono fun e w'' hh => ?_
  obtain ⟨v, rfl, hk⟩ := hh
  subst hd
  exact hK _ _ hk

end Go.Proofs.Ytibkljplegpcdaa.QFnExactMatchesOk
