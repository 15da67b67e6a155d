-- Written by wip/tools/mk.py (this session's program, which runs the kit's print): functions, and proofs that the machine's calls do what they say.
import Derived.Test.YtfipeogppcllnaaProg
import Derived.Below
import Derived.Deep.Draws
import Derived.Deep.AppendLies
import Derived.Maps.AppendAt
import Derived.OwnWalk
import Derived.Laws.BytesArg
import Derived.Laws.MakeOwn
import Derived.Laws.OwnMore
import Derived.Deep.OwnRows
import Derived.Tactics
import Derived.Lib.ConvBytes
import Derived.Laws.Slices
import Derived.WalkKit
import Derived.KernelRfl
import Derived.RowKit3
import Derived.Deep.LoopGhost
import Derived.Deep.QuietTactic
import Derived.BigQuiet
import Derived.WideLaws
import Derived.Deep.DeepCutAuto
import Derived.Deep.CutBlock
import Derived.Deep.RegionHeld3
import Derived.Laws.Rows
import Derived.Lib.AppendStr
import Derived.ArgAppend
import Derived.Laws.IdiomCopy
import Derived.OrdersHeld
import Derived.Laws.BitsLemmas
import Derived.RowKit
import Derived.Laws.Cover1
import Derived.Lib.SliceRun
import Derived.Test.YtfipeogppcllnaaWWords
import Derived.Test.YtfipeogppcllnaaWLast
import Derived.Test.YtfipeogppcllnaaWTab
import Derived.Test.YtfipeogppcllnaaWQPut
import Derived.Test.YtfipeogppcllnaaWApart
import Derived.Test.YtfipeogppcllnaaWArr
import Derived.Test.YtfipeogppcllnaaWZeros
import Derived.Test.YtfipeogppcllnaaWFoot
import Derived.Test.YtfipeogppcllnaaWKept
import Derived.Test.YtfipeogppcllnaaWShare
import Derived.Test.YtfipeogppcllnaaWN
import Derived.Test.YtfipeogppcllnaaWGuard
import Derived.Test.YtfipeogppcllnaaWNEv
import Derived.Test.YtfipeogppcllnaaWMore
import Derived.Test.YtfipeogppcllnaaWOwn
namespace Go.Proofs.Ytfipeogppcllnaa.QFnExactBlockOk
open Go.RowKit Go.Proofs.YtfipeogppcllnaaW.PrintWords Go.Proofs.YtfipeogppcllnaaW.PrintLast Go.Proofs.YtfipeogppcllnaaW.PrintMore
attribute [local go_sem] IntKind.wrap_u8 max2_int min2_int max_two min_two max_three min_three max_four min_four   -- for this text's walks alone
set_option linter.unusedVariables false
set_option linter.unusedSimpArgs false



def errW : Option Int → Value
  | none => .nilIface
  | some c => .iface 0 (.int .i64 c)
theorem errW_none : errW none = .nilIface := rfl
theorem errW_some (c : Int) : errW (some c) = .iface 0 (.int .i64 c) := rfl

theorem info87 : (Try.prog.info? 87).map (fun i => (i.zero, i.size, i.bytes)) = some (some (.agg #[(.int .i64 0), (.int .i64 0)]), 2, 16) := by kernel_rfl
theorem info107 : (Try.prog.info? 107).map (fun i => (i.zero, i.size, i.bytes)) = some (some (.agg #[(.slice none 0 0), (.slice none 0 0)]), 2, 48) := by kernel_rfl
theorem info119 : (Try.prog.info? 119).map (fun i => (i.zero, i.size, i.bytes)) = some (some (.agg #[(.string ⟨#[]⟩), (.string ⟨#[]⟩)]), 2, 32) := by kernel_rfl
-- the values' own types
/-! #### struct type 140 -/
structure S140 where
  f0 : ByteArray
  f1 : ByteArray
def z140 : S140 := ⟨(⟨#[]⟩ : ByteArray), (⟨#[]⟩ : ByteArray)⟩
def k140 : Kd S140 := Kd.iso (Kd.pair Kd.string Kd.string) (fun x : S140 => (x.f0, x.f1))
theorem k140_open {w : World} {x : S140} {cs : List Value} (h : k140.K w x cs) : cs = [.string x.f0, .string x.f1] := by
  obtain ⟨_, _, rfl, rfl, rfl⟩ := h
  exact rfl
theorem k140_openM {w : World} {base : Nat} {ok : Nat → Prop} {x : S140} {cs : List Value} (h : k140.M w base ok x cs) : cs = [.string x.f0, .string x.f1] := by
  obtain ⟨_, _, rfl, rfl, rfl⟩ := h
  exact rfl
theorem k140_mk (w : World) (x : S140)  : k140.K w x [.string x.f0, .string x.f1] := ⟨[.string x.f0], [.string x.f1], rfl, rfl, rfl⟩
theorem k140_mkM (w : World) (base : Nat) (ok : Nat → Prop) (x : S140)  : k140.M w base ok x [.string x.f0, .string x.f1] := ⟨[.string x.f0], [.string x.f1], rfl, rfl, rfl⟩
def rd_T140 (xs : List S140) (i : Int) : S140 := xs.getD i.toNat z140
theorem at_T140 {w : World} {A : Option Addr} {n : Nat} {xs : List S140} (h : Kd.C k140 w A n xs) (i : Int) (h0 : 0 ≤ i) (h1 : i < n) : ∃ ad , A = some ad ∧ w.cell? (ad.add (i.toNat * 2)) = some (.string (rd_T140 xs i).f0) ∧ w.cell? ⟨(ad.add (i.toNat * 2)).block, (ad.add (i.toNat * 2)).off + 1, none⟩ = some (.string (rd_T140 xs i).f1) := by
  obtain ⟨ad, c, e, _, hK, hc0⟩ := Kd.C_get h z140 i h0 h1
  have hc : ∀ j u, c[j]? = some u → w.cell? (ad.add (i.toNat * 2 + j)) = some u := hc0
  obtain rfl := k140_open hK
  exact ⟨ad, e, hc 0 _ rfl, by rw [← add_field _ _ 1 (by omega)]; exact hc 1 _ rfl⟩

/-! #### struct type 144 -/
structure S144 where
  f0 : Int
  f1 : Int
def z144 : S144 := ⟨(0 : Int), (0 : Int)⟩
def k144 : Kd S144 := Kd.iso (Kd.pair (Kd.int .i64) (Kd.int .i64)) (fun x : S144 => (x.f0, x.f1))
theorem k144_open {w : World} {x : S144} {cs : List Value} (h : k144.K w x cs) : cs = [.int .i64 x.f0, .int .i64 x.f1] := by
  obtain ⟨_, _, rfl, rfl, rfl⟩ := h
  exact rfl
theorem k144_openM {w : World} {base : Nat} {ok : Nat → Prop} {x : S144} {cs : List Value} (h : k144.M w base ok x cs) : cs = [.int .i64 x.f0, .int .i64 x.f1] := by
  obtain ⟨_, _, rfl, rfl, rfl⟩ := h
  exact rfl
theorem k144_mk (w : World) (x : S144)  : k144.K w x [.int .i64 x.f0, .int .i64 x.f1] := ⟨[.int .i64 x.f0], [.int .i64 x.f1], rfl, rfl, rfl⟩
theorem k144_mkM (w : World) (base : Nat) (ok : Nat → Prop) (x : S144)  : k144.M w base ok x [.int .i64 x.f0, .int .i64 x.f1] := ⟨[.int .i64 x.f0], [.int .i64 x.f1], rfl, rfl, rfl⟩
def rd_T144 (xs : List S144) (i : Int) : S144 := xs.getD i.toNat z144
theorem at_T144 {w : World} {A : Option Addr} {n : Nat} {xs : List S144} (h : Kd.C k144 w A n xs) (i : Int) (h0 : 0 ≤ i) (h1 : i < n) : ∃ ad , A = some ad ∧ w.cell? (ad.add (i.toNat * 2)) = some (.int .i64 (rd_T144 xs i).f0) ∧ w.cell? ⟨(ad.add (i.toNat * 2)).block, (ad.add (i.toNat * 2)).off + 1, none⟩ = some (.int .i64 (rd_T144 xs i).f1) := by
  obtain ⟨ad, c, e, _, hK, hc0⟩ := Kd.C_get h z144 i h0 h1
  have hc : ∀ j u, c[j]? = some u → w.cell? (ad.add (i.toNat * 2 + j)) = some u := hc0
  obtain rfl := k144_open hK
  exact ⟨ad, e, hc 0 _ rfl, by rw [← add_field _ _ 1 (by omega)]; exact hc 1 _ rfl⟩

def rd_L4 (xs : List (List S140)) (i : Int) : (List S140) := xs.getD i.toNat ([] : List S140)
theorem at_L4 {w : World} {A : Option Addr} {n : Nat} {xs : List (List S140)} (h : Kd.C (Kd.slice 140 k140) w A n xs) (i : Int) (h0 : 0 ≤ i) (h1 : i < n) : ∃ ad A0 c0, A = some ad ∧ w.cell? (ad.add i.toNat) = some (.slice A0 (rd_L4 xs i).length c0) ∧ (rd_L4 xs i).length ≤ c0 ∧ k140.C w A0 (rd_L4 xs i).length (rd_L4 xs i) := by
  obtain ⟨ad, c, e, _, hK, hc0⟩ := Kd.C_get h ([] : List S140) i h0 h1
  have hc : ∀ j u, c[j]? = some u → w.cell? (ad.add (i.toNat * 1 + j)) = some u := hc0
  obtain ⟨A0, c0, rfl, l0, g0⟩ := hK
  exact ⟨ad, A0, c0, e, by have hq := hc 0 _ rfl; rwa [Nat.mul_one, Nat.add_zero] at hq, l0, g0⟩

def rd_L5 (xs : List (List S144)) (i : Int) : (List S144) := xs.getD i.toNat ([] : List S144)
theorem at_L5 {w : World} {A : Option Addr} {n : Nat} {xs : List (List S144)} (h : Kd.C (Kd.slice 144 k144) w A n xs) (i : Int) (h0 : 0 ≤ i) (h1 : i < n) : ∃ ad A0 c0, A = some ad ∧ w.cell? (ad.add i.toNat) = some (.slice A0 (rd_L5 xs i).length c0) ∧ (rd_L5 xs i).length ≤ c0 ∧ k144.C w A0 (rd_L5 xs i).length (rd_L5 xs i) := by
  obtain ⟨ad, c, e, _, hK, hc0⟩ := Kd.C_get h ([] : List S144) i h0 h1
  have hc : ∀ j u, c[j]? = some u → w.cell? (ad.add (i.toNat * 1 + j)) = some u := hc0
  obtain ⟨A0, c0, rfl, l0, g0⟩ := hK
  exact ⟨ad, A0, c0, e, by have hq := hc 0 _ rfl; rwa [Nat.mul_one, Nat.add_zero] at hq, l0, g0⟩

/-! #### struct type 105 -/
structure S105 where
  f0 : (List S140)
  f1 : (List S144)
def z105 : S105 := ⟨([] : List S140), ([] : List S144)⟩
def k105 : Kd S105 := Kd.iso (Kd.pair (Kd.slice 140 k140) (Kd.slice 144 k144)) (fun x : S105 => (x.f0, x.f1))
theorem k105_open {w : World} {x : S105} {cs : List Value} (h : k105.K w x cs) : ∃ A0 c0 A1 c1, cs = [.slice A0 x.f0.length c0, .slice A1 x.f1.length c1] ∧ x.f0.length ≤ c0 ∧ k140.C w A0 x.f0.length x.f0 ∧ x.f1.length ≤ c1 ∧ k144.C w A1 x.f1.length x.f1 := by
  obtain ⟨_, _, rfl, ⟨A0, c0, rfl, l0, g0⟩, ⟨A1, c1, rfl, l1, g1⟩⟩ := h
  exact ⟨A0, c0, A1, c1, rfl, l0, g0, l1, g1⟩
theorem k105_openM {w : World} {base : Nat} {ok : Nat → Prop} {x : S105} {cs : List Value} (h : k105.M w base ok x cs) : ∃ v0 v1, cs = [v0, v1] ∧ k140.R 140 w base ok v0 x.f0 ∧ k144.R 144 w base ok v1 x.f1 := by
  obtain ⟨_, _, rfl, ⟨v0, rfl, g0⟩, ⟨v1, rfl, g1⟩⟩ := h
  exact ⟨v0, v1, rfl, g0, g1⟩
theorem k105_mk (w : World) (x : S105) {A0 : Option Addr} {c0 : Nat} (l0 : x.f0.length ≤ c0) (g0 : k140.C w A0 x.f0.length x.f0) {A1 : Option Addr} {c1 : Nat} (l1 : x.f1.length ≤ c1) (g1 : k144.C w A1 x.f1.length x.f1) : k105.K w x [.slice A0 x.f0.length c0, .slice A1 x.f1.length c1] := ⟨[.slice A0 x.f0.length c0], [.slice A1 x.f1.length c1], rfl, ⟨A0, c0, rfl, l0, g0⟩, ⟨A1, c1, rfl, l1, g1⟩⟩
theorem k105_mkM (w : World) (base : Nat) (ok : Nat → Prop) (x : S105) {v0 : Value} (g0 : k140.R 140 w base ok v0 x.f0) {v1 : Value} (g1 : k144.R 144 w base ok v1 x.f1) : k105.M w base ok x [v0, v1] := ⟨[v0], [v1], rfl, ⟨v0, rfl, g0⟩, ⟨v1, rfl, g1⟩⟩
def rd_T105 (xs : List S105) (i : Int) : S105 := xs.getD i.toNat z105
theorem at_T105 {w : World} {A : Option Addr} {n : Nat} {xs : List S105} (h : Kd.C k105 w A n xs) (i : Int) (h0 : 0 ≤ i) (h1 : i < n) : ∃ ad A0 c0 A1 c1, A = some ad ∧ w.cell? (ad.add (i.toNat * 2)) = some (.slice A0 (rd_T105 xs i).f0.length c0) ∧ w.cell? ⟨(ad.add (i.toNat * 2)).block, (ad.add (i.toNat * 2)).off + 1, none⟩ = some (.slice A1 (rd_T105 xs i).f1.length c1) ∧ (rd_T105 xs i).f0.length ≤ c0 ∧ k140.C w A0 (rd_T105 xs i).f0.length (rd_T105 xs i).f0 ∧ (rd_T105 xs i).f1.length ≤ c1 ∧ k144.C w A1 (rd_T105 xs i).f1.length (rd_T105 xs i).f1 := by
  obtain ⟨ad, c, e, _, hK, hc0⟩ := Kd.C_get h z105 i h0 h1
  have hc : ∀ j u, c[j]? = some u → w.cell? (ad.add (i.toNat * 2 + j)) = some u := hc0
  obtain ⟨A0, c0, A1, c1, rfl, l0, g0, l1, g1⟩ := k105_open hK
  exact ⟨ad, A0, c0, A1, c1, e, hc 0 _ rfl, by rw [← add_field _ _ 1 (by omega)]; exact hc 1 _ rfl, l0, g0, l1, g1⟩

/-! #### struct type 119 -/
structure S119 where
  f0 : ByteArray
  f1 : ByteArray
def z119 : S119 := ⟨(⟨#[]⟩ : ByteArray), (⟨#[]⟩ : ByteArray)⟩
def k119 : Kd S119 := Kd.iso (Kd.pair Kd.string Kd.string) (fun x : S119 => (x.f0, x.f1))
theorem k119_open {w : World} {x : S119} {cs : List Value} (h : k119.K w x cs) : cs = [.string x.f0, .string x.f1] := by
  obtain ⟨_, _, rfl, rfl, rfl⟩ := h
  exact rfl
theorem k119_openM {w : World} {base : Nat} {ok : Nat → Prop} {x : S119} {cs : List Value} (h : k119.M w base ok x cs) : cs = [.string x.f0, .string x.f1] := by
  obtain ⟨_, _, rfl, rfl, rfl⟩ := h
  exact rfl
theorem k119_mk (w : World) (x : S119)  : k119.K w x [.string x.f0, .string x.f1] := ⟨[.string x.f0], [.string x.f1], rfl, rfl, rfl⟩
theorem k119_mkM (w : World) (base : Nat) (ok : Nat → Prop) (x : S119)  : k119.M w base ok x [.string x.f0, .string x.f1] := ⟨[.string x.f0], [.string x.f1], rfl, rfl, rfl⟩
def rd_T119 (xs : List S119) (i : Int) : S119 := xs.getD i.toNat z119
theorem at_T119 {w : World} {A : Option Addr} {n : Nat} {xs : List S119} (h : Kd.C k119 w A n xs) (i : Int) (h0 : 0 ≤ i) (h1 : i < n) : ∃ ad , A = some ad ∧ w.cell? (ad.add (i.toNat * 2)) = some (.string (rd_T119 xs i).f0) ∧ w.cell? ⟨(ad.add (i.toNat * 2)).block, (ad.add (i.toNat * 2)).off + 1, none⟩ = some (.string (rd_T119 xs i).f1) := by
  obtain ⟨ad, c, e, _, hK, hc0⟩ := Kd.C_get h z119 i h0 h1
  have hc : ∀ j u, c[j]? = some u → w.cell? (ad.add (i.toNat * 2 + j)) = some u := hc0
  obtain rfl := k119_open hK
  exact ⟨ad, e, hc 0 _ rfl, by rw [← add_field _ _ 1 (by omega)]; exact hc 1 _ rfl⟩

def rd_L9 (xs : List (List S119)) (i : Int) : (List S119) := xs.getD i.toNat ([] : List S119)
theorem at_L9 {w : World} {A : Option Addr} {n : Nat} {xs : List (List S119)} (h : Kd.C (Kd.slice 119 k119) w A n xs) (i : Int) (h0 : 0 ≤ i) (h1 : i < n) : ∃ ad A0 c0, A = some ad ∧ w.cell? (ad.add i.toNat) = some (.slice A0 (rd_L9 xs i).length c0) ∧ (rd_L9 xs i).length ≤ c0 ∧ k119.C w A0 (rd_L9 xs i).length (rd_L9 xs i) := by
  obtain ⟨ad, c, e, _, hK, hc0⟩ := Kd.C_get h ([] : List S119) i h0 h1
  have hc : ∀ j u, c[j]? = some u → w.cell? (ad.add (i.toNat * 1 + j)) = some u := hc0
  obtain ⟨A0, c0, rfl, l0, g0⟩ := hK
  exact ⟨ad, A0, c0, e, by have hq := hc 0 _ rfl; rwa [Nat.mul_one, Nat.add_zero] at hq, l0, g0⟩

/-! #### struct type 87 -/
structure S87 where
  f0 : Int
  f1 : Int
def z87 : S87 := ⟨(0 : Int), (0 : Int)⟩
def k87 : Kd S87 := Kd.iso (Kd.pair (Kd.int .i64) (Kd.int .i64)) (fun x : S87 => (x.f0, x.f1))
theorem k87_open {w : World} {x : S87} {cs : List Value} (h : k87.K w x cs) : cs = [.int .i64 x.f0, .int .i64 x.f1] := by
  obtain ⟨_, _, rfl, rfl, rfl⟩ := h
  exact rfl
theorem k87_openM {w : World} {base : Nat} {ok : Nat → Prop} {x : S87} {cs : List Value} (h : k87.M w base ok x cs) : cs = [.int .i64 x.f0, .int .i64 x.f1] := by
  obtain ⟨_, _, rfl, rfl, rfl⟩ := h
  exact rfl
theorem k87_mk (w : World) (x : S87)  : k87.K w x [.int .i64 x.f0, .int .i64 x.f1] := ⟨[.int .i64 x.f0], [.int .i64 x.f1], rfl, rfl, rfl⟩
theorem k87_mkM (w : World) (base : Nat) (ok : Nat → Prop) (x : S87)  : k87.M w base ok x [.int .i64 x.f0, .int .i64 x.f1] := ⟨[.int .i64 x.f0], [.int .i64 x.f1], rfl, rfl, rfl⟩
def rd_T87 (xs : List S87) (i : Int) : S87 := xs.getD i.toNat z87
theorem at_T87 {w : World} {A : Option Addr} {n : Nat} {xs : List S87} (h : Kd.C k87 w A n xs) (i : Int) (h0 : 0 ≤ i) (h1 : i < n) : ∃ ad , A = some ad ∧ w.cell? (ad.add (i.toNat * 2)) = some (.int .i64 (rd_T87 xs i).f0) ∧ w.cell? ⟨(ad.add (i.toNat * 2)).block, (ad.add (i.toNat * 2)).off + 1, none⟩ = some (.int .i64 (rd_T87 xs i).f1) := by
  obtain ⟨ad, c, e, _, hK, hc0⟩ := Kd.C_get h z87 i h0 h1
  have hc : ∀ j u, c[j]? = some u → w.cell? (ad.add (i.toNat * 2 + j)) = some u := hc0
  obtain rfl := k87_open hK
  exact ⟨ad, e, hc 0 _ rfl, by rw [← add_field _ _ 1 (by omega)]; exact hc 1 _ rfl⟩

def rd_L11 (xs : List (List S87)) (i : Int) : (List S87) := xs.getD i.toNat ([] : List S87)
theorem at_L11 {w : World} {A : Option Addr} {n : Nat} {xs : List (List S87)} (h : Kd.C (Kd.slice 87 k87) w A n xs) (i : Int) (h0 : 0 ≤ i) (h1 : i < n) : ∃ ad A0 c0, A = some ad ∧ w.cell? (ad.add i.toNat) = some (.slice A0 (rd_L11 xs i).length c0) ∧ (rd_L11 xs i).length ≤ c0 ∧ k87.C w A0 (rd_L11 xs i).length (rd_L11 xs i) := by
  obtain ⟨ad, c, e, _, hK, hc0⟩ := Kd.C_get h ([] : List S87) i h0 h1
  have hc : ∀ j u, c[j]? = some u → w.cell? (ad.add (i.toNat * 1 + j)) = some u := hc0
  obtain ⟨A0, c0, rfl, l0, g0⟩ := hK
  exact ⟨ad, A0, c0, e, by have hq := hc 0 _ rfl; rwa [Nat.mul_one, Nat.add_zero] at hq, l0, g0⟩

/-! #### struct type 107 -/
structure S107 where
  f0 : (List S119)
  f1 : (List S87)
def z107 : S107 := ⟨([] : List S119), ([] : List S87)⟩
def k107 : Kd S107 := Kd.iso (Kd.pair (Kd.slice 119 k119) (Kd.slice 87 k87)) (fun x : S107 => (x.f0, x.f1))
theorem k107_open {w : World} {x : S107} {cs : List Value} (h : k107.K w x cs) : ∃ A0 c0 A1 c1, cs = [.slice A0 x.f0.length c0, .slice A1 x.f1.length c1] ∧ x.f0.length ≤ c0 ∧ k119.C w A0 x.f0.length x.f0 ∧ x.f1.length ≤ c1 ∧ k87.C w A1 x.f1.length x.f1 := by
  obtain ⟨_, _, rfl, ⟨A0, c0, rfl, l0, g0⟩, ⟨A1, c1, rfl, l1, g1⟩⟩ := h
  exact ⟨A0, c0, A1, c1, rfl, l0, g0, l1, g1⟩
theorem k107_openM {w : World} {base : Nat} {ok : Nat → Prop} {x : S107} {cs : List Value} (h : k107.M w base ok x cs) : ∃ v0 v1, cs = [v0, v1] ∧ k119.R 119 w base ok v0 x.f0 ∧ k87.R 87 w base ok v1 x.f1 := by
  obtain ⟨_, _, rfl, ⟨v0, rfl, g0⟩, ⟨v1, rfl, g1⟩⟩ := h
  exact ⟨v0, v1, rfl, g0, g1⟩
theorem k107_mk (w : World) (x : S107) {A0 : Option Addr} {c0 : Nat} (l0 : x.f0.length ≤ c0) (g0 : k119.C w A0 x.f0.length x.f0) {A1 : Option Addr} {c1 : Nat} (l1 : x.f1.length ≤ c1) (g1 : k87.C w A1 x.f1.length x.f1) : k107.K w x [.slice A0 x.f0.length c0, .slice A1 x.f1.length c1] := ⟨[.slice A0 x.f0.length c0], [.slice A1 x.f1.length c1], rfl, ⟨A0, c0, rfl, l0, g0⟩, ⟨A1, c1, rfl, l1, g1⟩⟩
theorem k107_mkM (w : World) (base : Nat) (ok : Nat → Prop) (x : S107) {v0 : Value} (g0 : k119.R 119 w base ok v0 x.f0) {v1 : Value} (g1 : k87.R 87 w base ok v1 x.f1) : k107.M w base ok x [v0, v1] := ⟨[v0], [v1], rfl, ⟨v0, rfl, g0⟩, ⟨v1, rfl, g1⟩⟩
def rd_T107 (xs : List S107) (i : Int) : S107 := xs.getD i.toNat z107
theorem at_T107 {w : World} {A : Option Addr} {n : Nat} {xs : List S107} (h : Kd.C k107 w A n xs) (i : Int) (h0 : 0 ≤ i) (h1 : i < n) : ∃ ad A0 c0 A1 c1, A = some ad ∧ w.cell? (ad.add (i.toNat * 2)) = some (.slice A0 (rd_T107 xs i).f0.length c0) ∧ w.cell? ⟨(ad.add (i.toNat * 2)).block, (ad.add (i.toNat * 2)).off + 1, none⟩ = some (.slice A1 (rd_T107 xs i).f1.length c1) ∧ (rd_T107 xs i).f0.length ≤ c0 ∧ k119.C w A0 (rd_T107 xs i).f0.length (rd_T107 xs i).f0 ∧ (rd_T107 xs i).f1.length ≤ c1 ∧ k87.C w A1 (rd_T107 xs i).f1.length (rd_T107 xs i).f1 := by
  obtain ⟨ad, c, e, _, hK, hc0⟩ := Kd.C_get h z107 i h0 h1
  have hc : ∀ j u, c[j]? = some u → w.cell? (ad.add (i.toNat * 2 + j)) = some u := hc0
  obtain ⟨A0, c0, A1, c1, rfl, l0, g0, l1, g1⟩ := k107_open hK
  exact ⟨ad, A0, c0, A1, c1, e, hc 0 _ rfl, by rw [← add_field _ _ 1 (by omega)]; exact hc 1 _ rfl, l0, g0, l1, g1⟩

def rd_L13 (xs : List (List S107)) (i : Int) : (List S107) := xs.getD i.toNat ([] : List S107)
theorem at_L13 {w : World} {A : Option Addr} {n : Nat} {xs : List (List S107)} (h : Kd.C (Kd.slice 107 k107) w A n xs) (i : Int) (h0 : 0 ≤ i) (h1 : i < n) : ∃ ad A0 c0, A = some ad ∧ w.cell? (ad.add i.toNat) = some (.slice A0 (rd_L13 xs i).length c0) ∧ (rd_L13 xs i).length ≤ c0 ∧ k107.C w A0 (rd_L13 xs i).length (rd_L13 xs i) := by
  obtain ⟨ad, c, e, _, hK, hc0⟩ := Kd.C_get h ([] : List S107) i h0 h1
  have hc : ∀ j u, c[j]? = some u → w.cell? (ad.add (i.toNat * 1 + j)) = some u := hc0
  obtain ⟨A0, c0, rfl, l0, g0⟩ := hK
  exact ⟨ad, A0, c0, e, by have hq := hc 0 _ rfl; rwa [Nat.mul_one, Nat.add_zero] at hq, l0, g0⟩

def rd_L14 (xs : List (List Int)) (i : Int) : (List Int) := xs.getD i.toNat ([] : List Int)
theorem at_L14 {w : World} {A : Option Addr} {n : Nat} {xs : List (List Int)} (h : Kd.C (Kd.slice 3 (Kd.int .i64)) w A n xs) (i : Int) (h0 : 0 ≤ i) (h1 : i < n) : ∃ ad A0 c0, A = some ad ∧ w.cell? (ad.add i.toNat) = some (.slice A0 (rd_L14 xs i).length c0) ∧ (rd_L14 xs i).length ≤ c0 ∧ (Kd.int .i64).C w A0 (rd_L14 xs i).length (rd_L14 xs i) := by
  obtain ⟨ad, c, e, _, hK, hc0⟩ := Kd.C_get h ([] : List Int) i h0 h1
  have hc : ∀ j u, c[j]? = some u → w.cell? (ad.add (i.toNat * 1 + j)) = some u := hc0
  obtain ⟨A0, c0, rfl, l0, g0⟩ := hK
  exact ⟨ad, A0, c0, e, by have hq := hc 0 _ rfl; rwa [Nat.mul_one, Nat.add_zero] at hq, l0, g0⟩

def rd_L15 (xs : List (List S105)) (i : Int) : (List S105) := xs.getD i.toNat ([] : List S105)
theorem at_L15 {w : World} {A : Option Addr} {n : Nat} {xs : List (List S105)} (h : Kd.C (Kd.slice 105 k105) w A n xs) (i : Int) (h0 : 0 ≤ i) (h1 : i < n) : ∃ ad A0 c0, A = some ad ∧ w.cell? (ad.add i.toNat) = some (.slice A0 (rd_L15 xs i).length c0) ∧ (rd_L15 xs i).length ≤ c0 ∧ k105.C w A0 (rd_L15 xs i).length (rd_L15 xs i) := by
  obtain ⟨ad, c, e, _, hK, hc0⟩ := Kd.C_get h ([] : List S105) i h0 h1
  have hc : ∀ j u, c[j]? = some u → w.cell? (ad.add (i.toNat * 1 + j)) = some u := hc0
  obtain ⟨A0, c0, rfl, l0, g0⟩ := hK
  exact ⟨ad, A0, c0, e, by have hq := hc 0 _ rfl; rwa [Nat.mul_one, Nat.add_zero] at hq, l0, g0⟩

/-! #### struct type 47 -/
structure S47 where
  f0 : Int
  f1 : Int
  f2 : (List S105)
def z47 : S47 := ⟨(0 : Int), (0 : Int), ([] : List S105)⟩
def k47 : Kd S47 := Kd.iso (Kd.pair (Kd.int .i64) (Kd.pair (Kd.int .i64) (Kd.slice 105 k105))) (fun x : S47 => (x.f0, x.f1, x.f2))
theorem k47_open {w : World} {x : S47} {cs : List Value} (h : k47.K w x cs) : ∃ A2 c2, cs = [.int .i64 x.f0, .int .i64 x.f1, .slice A2 x.f2.length c2] ∧ x.f2.length ≤ c2 ∧ k105.C w A2 x.f2.length x.f2 := by
  obtain ⟨_, _, rfl, rfl, ⟨_, _, rfl, rfl, ⟨A2, c2, rfl, l2, g2⟩⟩⟩ := h
  exact ⟨A2, c2, rfl, l2, g2⟩
theorem k47_openM {w : World} {base : Nat} {ok : Nat → Prop} {x : S47} {cs : List Value} (h : k47.M w base ok x cs) : ∃ v2, cs = [.int .i64 x.f0, .int .i64 x.f1, v2] ∧ k105.R 105 w base ok v2 x.f2 := by
  obtain ⟨_, _, rfl, rfl, ⟨_, _, rfl, rfl, ⟨v2, rfl, g2⟩⟩⟩ := h
  exact ⟨v2, rfl, g2⟩
theorem k47_mk (w : World) (x : S47) {A2 : Option Addr} {c2 : Nat} (l2 : x.f2.length ≤ c2) (g2 : k105.C w A2 x.f2.length x.f2) : k47.K w x [.int .i64 x.f0, .int .i64 x.f1, .slice A2 x.f2.length c2] := ⟨[.int .i64 x.f0], [.int .i64 x.f1, .slice A2 x.f2.length c2], rfl, rfl, ⟨[.int .i64 x.f1], [.slice A2 x.f2.length c2], rfl, rfl, ⟨A2, c2, rfl, l2, g2⟩⟩⟩
theorem k47_mkM (w : World) (base : Nat) (ok : Nat → Prop) (x : S47) {v2 : Value} (g2 : k105.R 105 w base ok v2 x.f2) : k47.M w base ok x [.int .i64 x.f0, .int .i64 x.f1, v2] := ⟨[.int .i64 x.f0], [.int .i64 x.f1, v2], rfl, rfl, ⟨[.int .i64 x.f1], [v2], rfl, rfl, ⟨v2, rfl, g2⟩⟩⟩
def rd_T47 (xs : List S47) (i : Int) : S47 := xs.getD i.toNat z47
theorem at_T47 {w : World} {A : Option Addr} {n : Nat} {xs : List S47} (h : Kd.C k47 w A n xs) (i : Int) (h0 : 0 ≤ i) (h1 : i < n) : ∃ ad A2 c2, A = some ad ∧ w.cell? (ad.add (i.toNat * 3)) = some (.int .i64 (rd_T47 xs i).f0) ∧ w.cell? ⟨(ad.add (i.toNat * 3)).block, (ad.add (i.toNat * 3)).off + 1, none⟩ = some (.int .i64 (rd_T47 xs i).f1) ∧ w.cell? ⟨(ad.add (i.toNat * 3)).block, (ad.add (i.toNat * 3)).off + 2, none⟩ = some (.slice A2 (rd_T47 xs i).f2.length c2) ∧ (rd_T47 xs i).f2.length ≤ c2 ∧ k105.C w A2 (rd_T47 xs i).f2.length (rd_T47 xs i).f2 := by
  obtain ⟨ad, c, e, _, hK, hc0⟩ := Kd.C_get h z47 i h0 h1
  have hc : ∀ j u, c[j]? = some u → w.cell? (ad.add (i.toNat * 3 + j)) = some u := hc0
  obtain ⟨A2, c2, rfl, l2, g2⟩ := k47_open hK
  exact ⟨ad, A2, c2, e, hc 0 _ rfl, by rw [← add_field _ _ 1 (by omega)]; exact hc 1 _ rfl, by rw [← add_field _ _ 2 (by omega)]; exact hc 2 _ rfl, l2, g2⟩

def isL (c : UInt8) : Bool := decide (97 ≤ (c.toNat : Int) ∧ (c.toNat : Int) ≤ 122)
def lettersB (s : ByteArray) (n : Int) : Bool := s.data.toList.all isL && decide ((s.size : Int) ≤ n)
theorem letters_size (s : ByteArray) : s.data.toList.length = s.size := by rw [Array.length_toList]; rfl
theorem letters_bt (s : ByteArray) (k : Nat) (h : k < s.size) : bt s (k : Int) = (((s.data.toList[k]'(by rw [letters_size]; exact h)).toNat : Nat) : Int) := by
  unfold bt
  have e : (k : Int).toNat = k := by omega
  rw [dif_pos (by rw [e]; exact h)]
  rfl
theorem letters_no (s : ByteArray) (k : Nat) (h : k < s.size) (hb : ¬ (97 ≤ bt s (k : Int) ∧ bt s (k : Int) ≤ 122)) (n : Int) : lettersB s n = false := by
  have hk : k < s.data.toList.length := by rw [letters_size]; exact h
  have e := letters_bt s k h
  have : s.data.toList.all isL = false := by
    rw [List.all_eq_false]
    refine ⟨_, List.getElem_mem hk, ?_⟩
    unfold isL
    rw [e] at hb
    simpa using hb
  unfold lettersB
  rw [this, Bool.false_and]
theorem letters_step (s : ByteArray) (k : Nat) (h : k < s.size) (h0 : (s.data.toList.take k).all isL = true) (hb : 97 ≤ bt s (k : Int) ∧ bt s (k : Int) ≤ 122) : (s.data.toList.take (k + 1)).all isL = true := by
  have hk : k < s.data.toList.length := by rw [letters_size]; exact h
  rw [List.take_succ_eq_append_getElem hk, List.all_append, h0, Bool.true_and]
  have e := letters_bt s k h
  rw [e] at hb
  rw [List.all_cons, List.all_nil, Bool.and_true]
  exact decide_eq_true hb
theorem letters_end (s : ByteArray) (h0 : (s.data.toList.take s.size).all isL = true) (n : Int) : lettersB s n = decide ((s.size : Int) ≤ n) := by
  rw [← letters_size, List.take_length] at h0
  unfold lettersB
  rw [h0, Bool.true_and]
def bdS (s : ByteArray) : Bool := decide (s.size < 9223372036854775807)

def chainP {α : Type} (R : α → Bool) (lt : α → α → Bool) : Option α → List α → Bool
  | _, [] => true
  | p, x :: l => R x && (match p with | none => true | some q => lt q x) && chainP R lt (some x) l
def prevG {α : Type} (l : List α) (z : α) (i : Nat) : Option α := if i = 0 then none else some (l.getD (i - 1) z)
theorem chainP_cons {α : Type} (R : α → Bool) (lt : α → α → Bool) (p : Option α) (x : α) (l : List α) : chainP R lt p (x :: l) = (R x && (match p with | none => true | some q => lt q x) && chainP R lt (some x) l) := rfl
theorem getD_at {α : Type} {l : List α} {i : Nat} (h : i < l.length) (d : α) : l.getD i d = l[i] := by simp [List.getD, List.getElem?_eq_getElem h]
theorem prevG_succ {α : Type} (l : List α) (z : α) (i : Nat) (h : i < l.length) : prevG l z (i + 1) = some l[i] := by
  unfold prevG
  rw [if_neg (by omega), Nat.add_sub_cancel, getD_at h]
theorem chainP_step {α : Type} (R : α → Bool) (lt : α → α → Bool) (l : List α) (z : α) (i : Nat) (h : i < l.length) : chainP R lt (prevG l z i) (l.drop i) = (R l[i] && (if 0 < i then lt (l.getD (i - 1) z) l[i] else true) && chainP R lt (prevG l z (i + 1)) (l.drop (i + 1))) := by
  rw [List.drop_eq_getElem_cons h, chainP_cons, prevG_succ l z i h]
  by_cases hi : i = 0
  · subst hi; rfl
  · unfold prevG
    rw [if_neg hi, if_pos (by omega)]
theorem chainP_no1 {α : Type} (R : α → Bool) (lt : α → α → Bool) (l : List α) (z : α) (i : Nat) (h : i < l.length) (hR : R (l.getD i z) = false) : chainP R lt (prevG l z i) (l.drop i) = false := by
  rw [getD_at h] at hR
  rw [chainP_step R lt l z i h, hR, Bool.false_and, Bool.false_and]
theorem chainP_no2 {α : Type} (R : α → Bool) (lt : α → α → Bool) (l : List α) (z : α) (i : Nat) (h : i < l.length) (h0 : 0 < i) (hl : lt (l.getD (i - 1) z) (l.getD i z) = false) : chainP R lt (prevG l z i) (l.drop i) = false := by
  rw [getD_at h z] at hl
  rw [chainP_step R lt l z i h, if_pos h0, hl, Bool.and_false, Bool.false_and]
theorem chainP_on0 {α : Type} (R : α → Bool) (lt : α → α → Bool) (l : List α) (z : α) (h : 0 < l.length) (hR : R (l.getD 0 z) = true) : chainP R lt (prevG l z 0) (l.drop 0) = chainP R lt (prevG l z 1) (l.drop 1) := by
  rw [getD_at h] at hR
  rw [chainP_step R lt l z 0 h, hR, if_neg (Nat.lt_irrefl 0), Bool.true_and, Bool.true_and]
theorem chainP_on {α : Type} (R : α → Bool) (lt : α → α → Bool) (l : List α) (z : α) (i : Nat) (h : i < l.length) (h0 : 0 < i) (hR : R (l.getD i z) = true) (hl : lt (l.getD (i - 1) z) (l.getD i z) = true) : chainP R lt (prevG l z i) (l.drop i) = chainP R lt (prevG l z (i + 1)) (l.drop (i + 1)) := by
  rw [getD_at h z] at hl hR
  rw [chainP_step R lt l z i h, hR, if_pos h0, hl, Bool.true_and, Bool.true_and]
theorem chainP_end {α : Type} (R : α → Bool) (lt : α → α → Bool) (l : List α) (p : Option α) (i : Nat) (h : l.length ≤ i) : chainP R lt p (l.drop i) = true := by
  rw [List.drop_eq_nil_of_le h]
  rfl
theorem quiet_D {P : Program} {f : FuncId} {args : Array Value} {w : World} {n : Nat} {v : Value} (h : Calls P f args (w.drewN n) fun e w' => e = .returned v ∧ Drawn0 (w.drewN n) w') : Calls P f args (w.drewN n) fun e w'' => e = .returned v ∧ ∃ m, w'' = w.drewN m :=
  Calls.quiet_of (h.mono fun _ _ ⟨h1, h2⟩ => ⟨h1, h2.out⟩)

abbrev Lbl := S119
def lblR (x : Lbl) : Bool := (lettersB x.f0 6 && (x.f0.toList != [])) && lettersB x.f1 8 && (x.f1.toList != [])
def lblLt (q x : Lbl) : Bool := Op.bytesLess q.f0.toList x.f0.toList
def labelsB (l : List Lbl) : Bool := chainP lblR lblLt none l && decide (1 ≤ l.length ∧ l.length ≤ 4)
def bdL (l : List Lbl) : Bool := decide (l.length < 9223372036854775807) && l.all fun x => bdS x.f0 && bdS x.f1
theorem bdL_len {l : List Lbl} (h : bdL l = true) : l.length < 9223372036854775807 := by
  unfold bdL at h
  exact of_decide_eq_true (Bool.and_eq_true _ _ ▸ h).1
theorem bdL_at {l : List Lbl} (h : bdL l = true) {x : Lbl} (hx : x ∈ l) : x.f0.size < 9223372036854775807 ∧ x.f1.size < 9223372036854775807 := by
  unfold bdL at h
  have h2 := (Bool.and_eq_true _ _ ▸ h).2
  have h3 := List.all_eq_true.1 h2 x hx
  have h4 := (Bool.and_eq_true _ _ ▸ h3)
  exact ⟨of_decide_eq_true h4.1, of_decide_eq_true h4.2⟩

abbrev Smp := S87
def inR (x : Smp) : Bool := decide (0 ≤ x.f0 ∧ x.f0 ≤ 9999 ∧ 0 ≤ x.f1 ∧ x.f1 ≤ 2147483647)
def smpLt (q x : Smp) : Bool := decide (q.f0 < x.f0)
def sokP (p : Option Smp) (l : List Smp) : Bool := chainP inR smpLt p l
def sok (l : List Smp) : Bool := sokP none l

def cmpT (a b : ByteArray) : Int := if Op.bytesLess a.toList b.toList = true then -1 else if (a.toList == b.toList) = true then 0 else 1
def cmp1 (x y : Lbl) : Int := if cmpT x.f0 y.f0 = 0 then cmpT x.f1 y.f1 else cmpT x.f0 y.f0
def cmpL : List Lbl → List Lbl → Int
  | [], [] => 0
  | [], _ :: _ => -1
  | _ :: _, [] => 1
  | x :: a, y :: b => if cmp1 x y = 0 then cmpL a b else cmp1 x y
theorem cmpT_range (a b : ByteArray) : -1 ≤ cmpT a b ∧ cmpT a b ≤ 1 := by
  unfold cmpT
  split
  · omega
  · split <;> omega
theorem cmp1_range (x y : Lbl) : -1 ≤ cmp1 x y ∧ cmp1 x y ≤ 1 := by
  unfold cmp1
  split
  · exact cmpT_range _ _
  · exact cmpT_range _ _
theorem cmpL_none (a b : List Lbl) (k : Nat) (h : ¬ k < a.length) : cmpL (a.drop k) (b.drop k) = if decide (k < b.length) = true then -1 else 0 := by
  rw [List.drop_eq_nil_of_le (show a.length ≤ k by omega)]
  by_cases hb : k < b.length
  · rw [List.drop_eq_getElem_cons hb, decide_eq_true hb]; rfl
  · rw [List.drop_eq_nil_of_le (show b.length ≤ k by omega), decide_eq_false hb]; rfl
theorem cmpL_more (a b : List Lbl) (k : Nat) (h : k < a.length) (hb : ¬ k < b.length) : cmpL (a.drop k) (b.drop k) = 1 := by
  rw [List.drop_eq_getElem_cons h, List.drop_eq_nil_of_le (show b.length ≤ k by omega)]; rfl
theorem cmpL_step (a b : List Lbl) (z : Lbl) (k : Nat) (h : k < a.length) (hb : k < b.length) : cmpL (a.drop k) (b.drop k) = if cmp1 (a.getD k z) (b.getD k z) = 0 then cmpL (a.drop (k + 1)) (b.drop (k + 1)) else cmp1 (a.getD k z) (b.getD k z) := by
  rw [List.drop_eq_getElem_cons h, List.drop_eq_getElem_cons hb, getD_at h, getD_at hb]; rfl
def orI (x y : Int) : Int := if x = 0 then y else x
theorem cmp1_or (x y : Lbl) : cmp1 x y = orI (cmpT x.f0 y.f0) (cmpT x.f1 y.f1) := rfl

abbrev Rw := S107
def rowR (x : Rw) : Bool := labelsB x.f0 && (sok x.f1 && decide (1 ≤ (x.f1.length : Int) ∧ (x.f1.length : Int) ≤ 1000))
def rowLt (q x : Rw) : Bool := decide (cmpL q.f0 x.f0 < 0)
def rowsB (l : List Rw) : Bool := chainP rowR rowLt none l && decide ((l.length : Int) ≤ 10)
def bdW (l : List Rw) : Bool := decide (l.length < 9223372036854775807) && l.all fun x => bdL x.f0 && decide (x.f1.length < 9223372036854775807)
theorem bdW_len {l : List Rw} (h : bdW l = true) : l.length < 9223372036854775807 := by
  unfold bdW at h
  exact of_decide_eq_true (Bool.and_eq_true _ _ ▸ h).1
theorem bdW_at {l : List Rw} (h : bdW l = true) {x : Rw} (hx : x ∈ l) : bdL x.f0 = true ∧ x.f1.length < 9223372036854775807 := by
  unfold bdW at h
  have h3 := List.all_eq_true.1 (Bool.and_eq_true _ _ ▸ h).2 x hx
  have h4 := (Bool.and_eq_true _ _ ▸ h3)
  exact ⟨h4.1, of_decide_eq_true h4.2⟩

def anyPre_ : Unit := ()
theorem any_step {α : Type} (P : α → Bool) (l : List α) (z : α) (k : Nat) (h : k < l.length) : (l.drop k).any P = (P (l.getD k z) || (l.drop (k + 1)).any P) := by
  rw [List.drop_eq_getElem_cons h, List.any_cons]
  congr 2
  simp [List.getD, h]

def callv_ : Unit := ()
theorem goesV_ {P : Program} {ops : Array Oper} {Q : Exit → Act → World → Prop} {rest : List Oper} {oi : Oper} {a : Act} {w : World} (N : Option Tmp) (hd : oi.dst = N) (hg : oi.guard = none) {x : Operand} {f : FuncId} {cap : Array Value} {fn : Func} {xs : Array Operand} {ts : Array TypeId}
    (hop : oi.op = .call { callee := .value x, args := xs, argTypes := ts }) (hx : a.eval x = .func (.func f) #[] cap) (hf : P.funcs[f]? = some fn) (hname : (fn.name == "runtime.NumGoroutine") = false) (hb : fn.body.isSome = true) (args : Array Value) (hargs : xs.map a.eval ++ cap = args)
    (h : Calls P f args w fun e w' => ∃ v, e = .returned v ∧ wpList P ops Q rest (a.put N v) w') : wpList P ops Q (oi :: rest) a w := by
  refine wpList_plain hg fun K hK => ?_
  have he := enters_ hf hname hb args w
  have hrun : (execOp a.eval oi).run P w = .ok (.enter f args) w := by
    unfold execOp
    simp [hop, hx, resolve, Deferred.ofValue, invoke, hargs, he]
  unfold Oper.wp
  rw [hrun, Oper.upon_enter]
  refine h.mono fun e w'' hh => ?_
  obtain ⟨v, rfl, hk⟩ := hh
  subst hd
  exact hK _ _ hk

def rowClearPre_ : Unit := ()
section
variable {P : Program} {ops : Array Oper} {rest : List Oper} {o : Oper} {a : Act} {Q : Exit → Act → World → Prop} {α : Type}
theorem zeroCells_len (z : Array Value) (n : Nat) : (Builtin.zeroCells z n).toList.length = n * z.size := by
  rw [Array.length_toList]
  simp [Builtin.zeroCells]
theorem zeroCells_one (z : Array Value) (n : Nat) (h : ∀ u ∈ z.toList, u.oneCell' = true) : ∀ u ∈ (Builtin.zeroCells z n).toList, u.oneCell' = true := by
  intro u hu
  rw [Array.mem_toList_iff] at hu
  unfold Builtin.zeroCells at hu
  obtain ⟨i, hi, rfl⟩ := Array.mem_map.1 hu
  rw [Array.mem_range] at hi
  have hz : 0 < z.size := by
    rcases Nat.eq_zero_or_pos z.size with h0 | h0
    · rw [h0, Nat.mul_zero] at hi; omega
    · exact h0
  have hm : i % z.size < z.size := Nat.mod_lt _ hz
  rw [getElem!_pos z (i % z.size) hm]
  exact h _ (by rw [Array.mem_toList_iff]; exact Array.getElem_mem hm)
/-- A row of one's own, cut to its first k elements: what stands behind them in its block is another's. -/
theorem R_tail {d : Kd α} {W : World} {base e g n cap k : Nat} {ok : Nat → Prop} {xs : List α} (HO : d.R e W base ok (.slice (some ⟨g, 0, none⟩) n cap) xs) (hk : k ≤ n) (vs : List Value) (hl : k * d.sz + vs.length ≤ n * d.sz) :
    d.R e (W.setCells g (k * d.sz) vs) base ok (.slice (some ⟨g, 0, none⟩) k cap) (xs.take k) ∧ W.grownBy (W.setCells g (k * d.sz) vs) (some g) ∧ ∃ cur : Array Value, W.heap[g]? = some (.cells cur e (0, 0)) ∧ n * d.sz ≤ cur.size := by
  have hn : n = xs.length := (Kd.R_reads' HO).1
  have hown0 := HO
  obtain ⟨_, inner0, ho0, _⟩ := hown0
  obtain ⟨hok, inner, ho, hr⟩ := Kd.R_take (m := k) HO (by omega)
  obtain ⟨h1, h2⟩ := ho
  rcases h2 with ⟨hv, _⟩ | ⟨g', cap', cur, hv, hb, hh, hnc, hcm, hcs, ht⟩
  · cases hv
  injection hv with ha _ hc
  injection ha with ha
  injection ha with hg
  subst hg; subst hc
  have hnc2 : n ≤ cap := by
    rcases ho0.2 with ⟨hv, _⟩ | ⟨_, _, _, hv, _, _, hx, _⟩
    · cases hv
    · injection hv with _ _ hc
      subst hc
      omega
  have hfit : n * d.sz ≤ cur.size := by rw [hcs]; exact Nat.mul_le_mul_right _ hnc2
  obtain ⟨cur', h3, h4, h5⟩ := setCells_row vs (k * d.sz) W cur hh (by omega)
  obtain ⟨s1, s2, s3, s4⟩ := setCells_same g vs (k * d.sz) W
  have hfar : ∀ q, q ≠ g → (W.setCells g (k * d.sz) vs).heap[q]? = W.heap[q]? := fun q hq => setCells_far vs _ q hq
  refine ⟨⟨hok, inner, ⟨h1, .inr ⟨g, cap, cur', by rw [show (xs.take k).length = k by rw [List.length_take]; omega], hb, h3, hnc, hcm, by rw [h4, hcs], ?_⟩⟩, ?_⟩, ⟨s1, s2, s3, by rw [s4]; exact Nat.le_refl _, fun q _ hq => hfar q (fun he => hq (by rw [he]))⟩, cur, hh, hfit⟩
  · rw [← ht, h5, List.append_assoc, show (xs.take k).length = k by rw [List.length_take]; omega]
    rw [List.take_append_of_le_length (by rw [List.length_take, Array.length_toList]; omega), List.take_take, Nat.min_self]
  · exact hr.imp_ (fun _ _ hq => d.M_mono (fun _ hk => hk.1) (d.M_move (fun q hq => hfar q (fun he => hq.1.2 (by rw [he]; simp [Value.ownBlock]))) (d.M_bound hq)))
/-- clear(s[k:]), s a row of one's own: s[:k] is as it was. -/
theorem R_clear (d : Kd α) {w0 W : World} (base : Nat) (hN : o.dst = none) (hgd : o.guard = none) (x : Operand) (t e : TypeId) (ho : o.op = .call { callee := .builtin .clear, args := #[x], argTypes := #[t] })
    (ht : P.underlying t = some (.slice e)) (z : Value) (hz0 : ∀ w, (zeroValue e).run P w = .ok z w) (hz : z.cells.size = d.sz) (hz1 : ∀ u ∈ z.cells.toList, u.oneCell' = true) {g n cap k : Nat} (xs : List α) (ok : Nat → Prop)
    (hx : a.eval x = .slice (if cap = k then some ⟨g, 0, none⟩ else (some (⟨g, 0, none⟩ : Addr)).map (·.add (k * d.sz))) (n - k) (cap - k)) (hk : k ≤ n)
    (HO : d.R e W base ok (.slice (some ⟨g, 0, none⟩) n cap) xs) (HB : Below base w0 W)
    (h : ∀ w1, d.R e w1 base ok (.slice (some ⟨g, 0, none⟩) k cap) (xs.take k) → Below base w0 w1 → wpList P ops Q rest a w1) : wpList P ops Q (o :: rest) a W := by
  have hn : n = xs.length := (Kd.R_reads' HO).1
  have hnc : n ≤ cap := (Kd.R_reads' HO).2.1
  have hbg : base ≤ g := Kd.R_base HO g (by simp [Value.ownBlock])
  refine wpList_plain hgd fun K hK => ?_
  have key : ∃ vs : List Value, k * d.sz + vs.length ≤ n * d.sz ∧ (Builtin.clear_ #[t] o.type #[a.eval x]).run P W = .ok (.tuple #[]) (W.setCells g (k * d.sz) vs) := by
    rw [hx]
    rcases Nat.lt_or_ge k n with hlt | hge
    · obtain ⟨_, _, cur, hh, hfit⟩ := R_tail HO hk [] (by simp only [List.length_nil]; exact Nat.mul_le_mul_right _ hk)
      have hle : k * d.sz + (n - k) * d.sz = n * d.sz := by rw [← Nat.add_mul]; congr 1; omega
      refine ⟨(Builtin.zeroCells z.cells (n - k)).toList, by rw [zeroCells_len, hz]; omega, ?_⟩
      rw [if_neg (show ¬ cap = k by omega)]
      have hst := run_storeCells_cells (P := P) g (k * d.sz) (Builtin.zeroCells z.cells (n - k)).toList 0 W
        (fun j hj => by rw [cell_of_row W g _ cur e (0, 0) hh]; rw [zeroCells_len, hz] at hj; simp; omega)
        (fun j _ => blk_frozen hh _) (zeroCells_one _ _ hz1)
      rw [Nat.add_zero] at hst
      have hadd : (some (⟨g, 0, none⟩ : Addr)).map (·.add (k * d.sz)) = some ⟨g, k * d.sz, none⟩ := by simp [Addr.add]; exact fun h => h.symm
      rw [hadd]
      obtain ⟨m, hm⟩ : ∃ m, n - k = m + 1 := ⟨n - k - 1, by omega⟩
      rw [hm] at hst ⊢
      simp [Builtin.clear_, run_underlying ht, hz0, hst]
    · refine ⟨[], by simp only [List.length_nil]; exact Nat.mul_le_mul_right _ hk, ?_⟩
      rw [show n - k = 0 by omega]
      show _ = Result.ok (Value.tuple #[]) W
      split <;> simp [Builtin.clear_, run_underlying ht]
  obtain ⟨vs, hvs, hrun⟩ := key
  obtain ⟨h1, h2, _⟩ := R_tail HO hk vs hvs
  have hB : Below base w0 (W.setCells g (k * d.sz) vs) := HB.trans ⟨h2.os, h2.tape, h2.output, h2.size, fun q hq => setCells_far vs _ q (by omega)⟩
  unfold Oper.wp execOp
  simp only [ho, resolve, invoke, builtin, Sem.run_bind, Sem.run_pure, Result.andThen_ok, List.map_toArray, List.map_cons, List.map_nil, hrun]
  show K (a.put o.dst (.tuple #[])) _
  rw [hN]
  exact hK a _ (h _ h1 hB)
end

def smpA (x : Smp) : Value := .agg #[.int .i64 x.f0, .int .i64 x.f1]
def FstP (P : Smp → Bool) (l : List Smp) (r : Int) : Prop := (r = -1 ∧ (l.filter fun x => !P x) = l) ∨ ∃ j : Nat, j < l.length ∧ r = (j : Int) ∧ P (l.getD j z87) = true ∧ ((l.take j).filter fun x => !P x) = l.take j
theorem filter_take_no (P : Smp → Bool) (l : List Smp) (z : Smp) (k : Nat) (h : k < l.length) (hP : P (l.getD k z) = false) : ((l.take (k + 1)).filter fun x => !P x) = ((l.take k).filter fun x => !P x) ++ [l.getD k z] := by
  rw [getD_at h] at hP ⊢
  rw [List.take_succ_eq_append_getElem h, List.filter_append]
  congr 1
  simp [hP]
theorem filter_take_yes (P : Smp → Bool) (l : List Smp) (z : Smp) (k : Nat) (h : k < l.length) (hP : P (l.getD k z) = true) : ((l.take (k + 1)).filter fun x => !P x) = ((l.take k).filter fun x => !P x) := by
  rw [getD_at h] at hP
  rw [List.take_succ_eq_append_getElem h, List.filter_append]
  simp [hP]
theorem take_snoc (l : List Smp) (z : Smp) (k : Nat) (h : k < l.length) : l.take (k + 1) = l.take k ++ [l.getD k z] := by
  rw [getD_at h, List.take_succ_eq_append_getElem h]
theorem store_smp {ops : Array Oper} {rest : List Oper} {o : Oper} {a : Act} {Q : Exit → Act → World → Prop} {w0 W : World} (base : Nat) (hN : o.dst = none) (hgd : o.guard = none) (p x : Operand) (ho : o.op = .store 87 p x) {g n cap : Nat} (i : Nat) (ys : List Smp) (q : Smp)
    (haddr : a.eval p = .pointer (some ⟨g, i * 2, none⟩)) (hx : a.eval x = .agg #[.int .i64 q.f0, .int .i64 q.f1]) (HO : Kd.R k87 87 W base (fun _ => True) (.slice (some ⟨g, 0, none⟩) n cap) ys) (hi : i < n) (HB : Below base w0 W)
    (h : ∀ w1, Kd.R k87 87 w1 base (fun _ => True) (.slice (some ⟨g, 0, none⟩) n cap) (ys.set i q) → Below base w0 w1 → W.heap.size ≤ w1.heap.size → wpList Try.prog ops Q rest a w1) : wpList Try.prog ops Q (o :: rest) a W := by
  obtain ⟨c, hcl, _, hcc, _⟩ := Kd.R_elem HO z87 (i : Int) (by omega) (by omega)
  have hcl2 : c.length = 2 := hcl
  have hdr : c.drop (0 + 2) = [] := List.drop_eq_nil_of_le (by omega)
  refine Kd.R_store k87 base hN hgd 87 p x ho 87 (i : Int) 0 ys q (.agg #[.int .i64 q.f0, .int .i64 q.f1]) [.int .i64 q.f0, .int .i64 q.f1] c (fun _ => True) (fun _ => False) haddr ?ho hx ?hu ?ht ?h1 HO (by omega) (by omega) hcl hcc (Nat.le_refl _) ?hM (fun _ h => h.elim) HB ?_
  case ho => rw [Int.toNat_natCast]; rfl
  case hu => simp [Value.cells, Value.oneCell']
  case ht => kernel_rfl
  case h1 => intro q hq; simp only [List.mem_cons, List.mem_nil_iff, or_false] at hq; rcases hq with rfl | rfl <;> rfl
  case hM => rw [show ([Value.int .i64 q.f0, .int .i64 q.f1] : List Value).length = 2 from rfl, hdr]; exact ⟨[.int .i64 q.f0], [.int .i64 q.f1], by simp, rfl, rfl⟩
  intro w1 h1 h2 h3
  rw [Int.toNat_natCast] at h1
  exact h w1 h1 h2 h3.size
theorem clear_smp {ops : Array Oper} {rest : List Oper} {o : Oper} {a : Act} {Q : Exit → Act → World → Prop} {w0 W : World} (base : Nat) (hN : o.dst = none) (hgd : o.guard = none) (x : Operand) (ho : o.op = .call { callee := .builtin .clear, args := #[x], argTypes := #[88] }) {g n cap : Nat} (i : Nat) (ys : List Smp)
    (hx : a.eval x = .slice (some ⟨g, i * 2, none⟩) (n - i) (cap - i)) (HO : Kd.R k87 87 W base (fun _ => True) (.slice (some ⟨g, 0, none⟩) n cap) ys) (hi : i < n) (HB : Below base w0 W)
    (h : ∀ w1, Kd.R k87 87 w1 base (fun _ => True) (.slice (some ⟨g, 0, none⟩) i cap) (ys.take i) → Below base w0 w1 → wpList Try.prog ops Q rest a w1) : wpList Try.prog ops Q (o :: rest) a W := by
  have hnc := (Kd.R_reads' HO).2.1
  refine R_clear k87 base hN hgd x 88 87 ho Try.underlying88 (.agg #[.int .i64 0, .int .i64 0]) ?hz (by simp [Value.cells, Value.oneCell']; rfl) ?hz1 ys (fun _ => True) ?hx (Nat.le_of_lt hi) HO HB h
  case hz => exact Try.zeroValue87
  case hz1 => intro u hu; simp [Value.cells, Value.oneCell'] at hu; subst hu; rfl
  case hx =>
    rw [hx, if_neg (by omega)]
    simp only [Option.map_some, add_plain]
    rfl
def cutP (a b : Int) (x : Smp) : Bool := decide (x.f0 < a) || decide (b ≤ x.f0)
def cutL (l : List Smp) (a b : Int) : List Smp := l.filter fun x => !cutP a b x

def insP (a b : Int) (x : Rw) : Bool := decide ((cutL x.f1 a b).length < x.f1.length)
def insideB (l : List Rw) (a b : Int) : Bool := !(l.any fun x => insP a b x)
def bdI (l : List Rw) : Bool := decide (l.length < 9223372036854775807) && l.all fun x => decide (x.f1.length ≤ 1048576)
theorem bdI_len {l : List Rw} (h : bdI l = true) : l.length < 9223372036854775807 := by
  unfold bdI at h
  exact of_decide_eq_true (Bool.and_eq_true _ _ ▸ h).1
theorem bdI_at {l : List Rw} (h : bdI l = true) {x : Rw} (hx : x ∈ l) : x.f1.length ≤ 1048576 := by
  unfold bdI at h
  exact of_decide_eq_true (List.all_eq_true.1 (Bool.and_eq_true _ _ ▸ h).2 x hx)

end Go.Proofs.Ytfipeogppcllnaa.QFnExactBlockOk
