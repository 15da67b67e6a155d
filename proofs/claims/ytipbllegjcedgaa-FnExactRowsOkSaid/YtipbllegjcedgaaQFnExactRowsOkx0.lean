-- Written by wip/tools/mk.py (this session's program, which runs the kit's print): functions, and proofs that the machine's calls do what they say.
import Derived.Test.YtipbllegjcedgaaProg
import Derived.Below
import Derived.Deep.Draws
import Derived.Deep.AppendLies
import Derived.Maps.AppendAt
import Derived.OwnWalk
import Derived.Laws.BytesArg
import Derived.Laws.MakeOwn
import Derived.Laws.OwnMore
import Derived.Deep.OwnRows
import Derived.Tactics
import Derived.Lib.ConvBytes
import Derived.Laws.Slices
import Derived.WalkKit
import Derived.KernelRfl
import Derived.RowKit3
import Derived.Deep.LoopGhost
import Derived.Deep.QuietTactic
import Derived.BigQuiet
import Derived.WideLaws
import Derived.Deep.DeepCutAuto
import Derived.Deep.CutBlock
import Derived.Deep.RegionHeld3
import Derived.Laws.Rows
import Derived.Lib.AppendStr
import Derived.ArgAppend
import Derived.Laws.IdiomCopy
import Derived.OrdersHeld
import Derived.Laws.BitsLemmas
import Derived.RowKit
import Derived.Laws.Cover1
import Derived.Test.YtipbllegjcedgaaWWords
import Derived.Test.YtipbllegjcedgaaWLast
import Derived.Test.YtipbllegjcedgaaWTab
import Derived.Test.YtipbllegjcedgaaWQPut
import Derived.Test.YtipbllegjcedgaaWApart
import Derived.Test.YtipbllegjcedgaaWArr
import Derived.Test.YtipbllegjcedgaaWZeros
import Derived.Test.YtipbllegjcedgaaWFoot
import Derived.Test.YtipbllegjcedgaaWKept
import Derived.Test.YtipbllegjcedgaaWShare
import Derived.Test.YtipbllegjcedgaaWN
import Derived.Test.YtipbllegjcedgaaWGuard
import Derived.Test.YtipbllegjcedgaaWNEv
import Derived.Test.YtipbllegjcedgaaWMore
import Derived.Test.YtipbllegjcedgaaWOwn
namespace Go.Proofs.Ytipbllegjcedgaa.QFnExactRowsOk
open Go.RowKit Go.Proofs.YtipbllegjcedgaaW.PrintWords Go.Proofs.YtipbllegjcedgaaW.PrintLast Go.Proofs.YtipbllegjcedgaaW.PrintMore
attribute [local go_sem] IntKind.wrap_u8 max2_int min2_int max_two min_two max_three min_three max_four min_four   -- for this text's walks alone
set_option linter.unusedVariables false
set_option linter.unusedSimpArgs false



def errW : Option Int → Value
  | none => .nilIface
  | some c => .iface 0 (.int .i64 c)
theorem errW_none : errW none = .nilIface := rfl
theorem errW_some (c : Int) : errW (some c) = .iface 0 (.int .i64 c) := rfl

theorem info52 : (Try.prog.info? 52).map (fun i => (i.zero, i.size, i.bytes)) = some (some (.agg #[(.string ⟨#[]⟩), (.string ⟨#[]⟩)]), 2, 32) := by kernel_rfl
theorem info85 : (Try.prog.info? 85).map (fun i => (i.zero, i.size, i.bytes)) = some (some (.agg #[(.slice none 0 0), (.slice none 0 0)]), 2, 48) := by kernel_rfl
theorem info117 : (Try.prog.info? 117).map (fun i => (i.zero, i.size, i.bytes)) = some (some (.agg #[(.int .i64 0), (.int .i64 0)]), 2, 16) := by kernel_rfl
-- the values' own types
/-! #### struct type 62 -/
structure S62 where
  f0 : ByteArray
  f1 : ByteArray
def z62 : S62 := ⟨(⟨#[]⟩ : ByteArray), (⟨#[]⟩ : ByteArray)⟩
def k62 : Kd S62 := Kd.iso (Kd.pair Kd.string Kd.string) (fun x : S62 => (x.f0, x.f1))
theorem k62_open {w : World} {x : S62} {cs : List Value} (h : k62.K w x cs) : cs = [.string x.f0, .string x.f1] := by
  obtain ⟨_, _, rfl, rfl, rfl⟩ := h
  exact rfl
theorem k62_openM {w : World} {base : Nat} {ok : Nat → Prop} {x : S62} {cs : List Value} (h : k62.M w base ok x cs) : cs = [.string x.f0, .string x.f1] := by
  obtain ⟨_, _, rfl, rfl, rfl⟩ := h
  exact rfl
theorem k62_mk (w : World) (x : S62)  : k62.K w x [.string x.f0, .string x.f1] := ⟨[.string x.f0], [.string x.f1], rfl, rfl, rfl⟩
theorem k62_mkM (w : World) (base : Nat) (ok : Nat → Prop) (x : S62)  : k62.M w base ok x [.string x.f0, .string x.f1] := ⟨[.string x.f0], [.string x.f1], rfl, rfl, rfl⟩
def rd_T62 (xs : List S62) (i : Int) : S62 := xs.getD i.toNat z62
theorem at_T62 {w : World} {A : Option Addr} {n : Nat} {xs : List S62} (h : Kd.C k62 w A n xs) (i : Int) (h0 : 0 ≤ i) (h1 : i < n) : ∃ ad , A = some ad ∧ w.cell? (ad.add (i.toNat * 2)) = some (.string (rd_T62 xs i).f0) ∧ w.cell? ⟨(ad.add (i.toNat * 2)).block, (ad.add (i.toNat * 2)).off + 1, none⟩ = some (.string (rd_T62 xs i).f1) := by
  obtain ⟨ad, c, e, _, hK, hc0⟩ := Kd.C_get h z62 i h0 h1
  have hc : ∀ j u, c[j]? = some u → w.cell? (ad.add (i.toNat * 2 + j)) = some u := hc0
  obtain rfl := k62_open hK
  exact ⟨ad, e, hc 0 _ rfl, by rw [← add_field _ _ 1 (by omega)]; exact hc 1 _ rfl⟩

/-! #### struct type 131 -/
structure S131 where
  f0 : Int
  f1 : Int
def z131 : S131 := ⟨(0 : Int), (0 : Int)⟩
def k131 : Kd S131 := Kd.iso (Kd.pair (Kd.int .i64) (Kd.int .i64)) (fun x : S131 => (x.f0, x.f1))
theorem k131_open {w : World} {x : S131} {cs : List Value} (h : k131.K w x cs) : cs = [.int .i64 x.f0, .int .i64 x.f1] := by
  obtain ⟨_, _, rfl, rfl, rfl⟩ := h
  exact rfl
theorem k131_openM {w : World} {base : Nat} {ok : Nat → Prop} {x : S131} {cs : List Value} (h : k131.M w base ok x cs) : cs = [.int .i64 x.f0, .int .i64 x.f1] := by
  obtain ⟨_, _, rfl, rfl, rfl⟩ := h
  exact rfl
theorem k131_mk (w : World) (x : S131)  : k131.K w x [.int .i64 x.f0, .int .i64 x.f1] := ⟨[.int .i64 x.f0], [.int .i64 x.f1], rfl, rfl, rfl⟩
theorem k131_mkM (w : World) (base : Nat) (ok : Nat → Prop) (x : S131)  : k131.M w base ok x [.int .i64 x.f0, .int .i64 x.f1] := ⟨[.int .i64 x.f0], [.int .i64 x.f1], rfl, rfl, rfl⟩
def rd_T131 (xs : List S131) (i : Int) : S131 := xs.getD i.toNat z131
theorem at_T131 {w : World} {A : Option Addr} {n : Nat} {xs : List S131} (h : Kd.C k131 w A n xs) (i : Int) (h0 : 0 ≤ i) (h1 : i < n) : ∃ ad , A = some ad ∧ w.cell? (ad.add (i.toNat * 2)) = some (.int .i64 (rd_T131 xs i).f0) ∧ w.cell? ⟨(ad.add (i.toNat * 2)).block, (ad.add (i.toNat * 2)).off + 1, none⟩ = some (.int .i64 (rd_T131 xs i).f1) := by
  obtain ⟨ad, c, e, _, hK, hc0⟩ := Kd.C_get h z131 i h0 h1
  have hc : ∀ j u, c[j]? = some u → w.cell? (ad.add (i.toNat * 2 + j)) = some u := hc0
  obtain rfl := k131_open hK
  exact ⟨ad, e, hc 0 _ rfl, by rw [← add_field _ _ 1 (by omega)]; exact hc 1 _ rfl⟩

def rd_L4 (xs : List (List S62)) (i : Int) : (List S62) := xs.getD i.toNat ([] : List S62)
theorem at_L4 {w : World} {A : Option Addr} {n : Nat} {xs : List (List S62)} (h : Kd.C (Kd.slice 62 k62) w A n xs) (i : Int) (h0 : 0 ≤ i) (h1 : i < n) : ∃ ad A0 c0, A = some ad ∧ w.cell? (ad.add i.toNat) = some (.slice A0 (rd_L4 xs i).length c0) ∧ (rd_L4 xs i).length ≤ c0 ∧ k62.C w A0 (rd_L4 xs i).length (rd_L4 xs i) := by
  obtain ⟨ad, c, e, _, hK, hc0⟩ := Kd.C_get h ([] : List S62) i h0 h1
  have hc : ∀ j u, c[j]? = some u → w.cell? (ad.add (i.toNat * 1 + j)) = some u := hc0
  obtain ⟨A0, c0, rfl, l0, g0⟩ := hK
  exact ⟨ad, A0, c0, e, by have hq := hc 0 _ rfl; rwa [Nat.mul_one, Nat.add_zero] at hq, l0, g0⟩

def rd_L5 (xs : List (List S131)) (i : Int) : (List S131) := xs.getD i.toNat ([] : List S131)
theorem at_L5 {w : World} {A : Option Addr} {n : Nat} {xs : List (List S131)} (h : Kd.C (Kd.slice 131 k131) w A n xs) (i : Int) (h0 : 0 ≤ i) (h1 : i < n) : ∃ ad A0 c0, A = some ad ∧ w.cell? (ad.add i.toNat) = some (.slice A0 (rd_L5 xs i).length c0) ∧ (rd_L5 xs i).length ≤ c0 ∧ k131.C w A0 (rd_L5 xs i).length (rd_L5 xs i) := by
  obtain ⟨ad, c, e, _, hK, hc0⟩ := Kd.C_get h ([] : List S131) i h0 h1
  have hc : ∀ j u, c[j]? = some u → w.cell? (ad.add (i.toNat * 1 + j)) = some u := hc0
  obtain ⟨A0, c0, rfl, l0, g0⟩ := hK
  exact ⟨ad, A0, c0, e, by have hq := hc 0 _ rfl; rwa [Nat.mul_one, Nat.add_zero] at hq, l0, g0⟩

/-! #### struct type 82 -/
structure S82 where
  f0 : (List S62)
  f1 : (List S131)
def z82 : S82 := ⟨([] : List S62), ([] : List S131)⟩
def k82 : Kd S82 := Kd.iso (Kd.pair (Kd.slice 62 k62) (Kd.slice 131 k131)) (fun x : S82 => (x.f0, x.f1))
theorem k82_open {w : World} {x : S82} {cs : List Value} (h : k82.K w x cs) : ∃ A0 c0 A1 c1, cs = [.slice A0 x.f0.length c0, .slice A1 x.f1.length c1] ∧ x.f0.length ≤ c0 ∧ k62.C w A0 x.f0.length x.f0 ∧ x.f1.length ≤ c1 ∧ k131.C w A1 x.f1.length x.f1 := by
  obtain ⟨_, _, rfl, ⟨A0, c0, rfl, l0, g0⟩, ⟨A1, c1, rfl, l1, g1⟩⟩ := h
  exact ⟨A0, c0, A1, c1, rfl, l0, g0, l1, g1⟩
theorem k82_openM {w : World} {base : Nat} {ok : Nat → Prop} {x : S82} {cs : List Value} (h : k82.M w base ok x cs) : ∃ v0 v1, cs = [v0, v1] ∧ k62.R 62 w base ok v0 x.f0 ∧ k131.R 131 w base ok v1 x.f1 := by
  obtain ⟨_, _, rfl, ⟨v0, rfl, g0⟩, ⟨v1, rfl, g1⟩⟩ := h
  exact ⟨v0, v1, rfl, g0, g1⟩
theorem k82_mk (w : World) (x : S82) {A0 : Option Addr} {c0 : Nat} (l0 : x.f0.length ≤ c0) (g0 : k62.C w A0 x.f0.length x.f0) {A1 : Option Addr} {c1 : Nat} (l1 : x.f1.length ≤ c1) (g1 : k131.C w A1 x.f1.length x.f1) : k82.K w x [.slice A0 x.f0.length c0, .slice A1 x.f1.length c1] := ⟨[.slice A0 x.f0.length c0], [.slice A1 x.f1.length c1], rfl, ⟨A0, c0, rfl, l0, g0⟩, ⟨A1, c1, rfl, l1, g1⟩⟩
theorem k82_mkM (w : World) (base : Nat) (ok : Nat → Prop) (x : S82) {v0 : Value} (g0 : k62.R 62 w base ok v0 x.f0) {v1 : Value} (g1 : k131.R 131 w base ok v1 x.f1) : k82.M w base ok x [v0, v1] := ⟨[v0], [v1], rfl, ⟨v0, rfl, g0⟩, ⟨v1, rfl, g1⟩⟩
def rd_T82 (xs : List S82) (i : Int) : S82 := xs.getD i.toNat z82
theorem at_T82 {w : World} {A : Option Addr} {n : Nat} {xs : List S82} (h : Kd.C k82 w A n xs) (i : Int) (h0 : 0 ≤ i) (h1 : i < n) : ∃ ad A0 c0 A1 c1, A = some ad ∧ w.cell? (ad.add (i.toNat * 2)) = some (.slice A0 (rd_T82 xs i).f0.length c0) ∧ w.cell? ⟨(ad.add (i.toNat * 2)).block, (ad.add (i.toNat * 2)).off + 1, none⟩ = some (.slice A1 (rd_T82 xs i).f1.length c1) ∧ (rd_T82 xs i).f0.length ≤ c0 ∧ k62.C w A0 (rd_T82 xs i).f0.length (rd_T82 xs i).f0 ∧ (rd_T82 xs i).f1.length ≤ c1 ∧ k131.C w A1 (rd_T82 xs i).f1.length (rd_T82 xs i).f1 := by
  obtain ⟨ad, c, e, _, hK, hc0⟩ := Kd.C_get h z82 i h0 h1
  have hc : ∀ j u, c[j]? = some u → w.cell? (ad.add (i.toNat * 2 + j)) = some u := hc0
  obtain ⟨A0, c0, A1, c1, rfl, l0, g0, l1, g1⟩ := k82_open hK
  exact ⟨ad, A0, c0, A1, c1, e, hc 0 _ rfl, by rw [← add_field _ _ 1 (by omega)]; exact hc 1 _ rfl, l0, g0, l1, g1⟩

/-! #### struct type 52 -/
structure S52 where
  f0 : ByteArray
  f1 : ByteArray
def z52 : S52 := ⟨(⟨#[]⟩ : ByteArray), (⟨#[]⟩ : ByteArray)⟩
def k52 : Kd S52 := Kd.iso (Kd.pair Kd.string Kd.string) (fun x : S52 => (x.f0, x.f1))
theorem k52_open {w : World} {x : S52} {cs : List Value} (h : k52.K w x cs) : cs = [.string x.f0, .string x.f1] := by
  obtain ⟨_, _, rfl, rfl, rfl⟩ := h
  exact rfl
theorem k52_openM {w : World} {base : Nat} {ok : Nat → Prop} {x : S52} {cs : List Value} (h : k52.M w base ok x cs) : cs = [.string x.f0, .string x.f1] := by
  obtain ⟨_, _, rfl, rfl, rfl⟩ := h
  exact rfl
theorem k52_mk (w : World) (x : S52)  : k52.K w x [.string x.f0, .string x.f1] := ⟨[.string x.f0], [.string x.f1], rfl, rfl, rfl⟩
theorem k52_mkM (w : World) (base : Nat) (ok : Nat → Prop) (x : S52)  : k52.M w base ok x [.string x.f0, .string x.f1] := ⟨[.string x.f0], [.string x.f1], rfl, rfl, rfl⟩
def rd_T52 (xs : List S52) (i : Int) : S52 := xs.getD i.toNat z52
theorem at_T52 {w : World} {A : Option Addr} {n : Nat} {xs : List S52} (h : Kd.C k52 w A n xs) (i : Int) (h0 : 0 ≤ i) (h1 : i < n) : ∃ ad , A = some ad ∧ w.cell? (ad.add (i.toNat * 2)) = some (.string (rd_T52 xs i).f0) ∧ w.cell? ⟨(ad.add (i.toNat * 2)).block, (ad.add (i.toNat * 2)).off + 1, none⟩ = some (.string (rd_T52 xs i).f1) := by
  obtain ⟨ad, c, e, _, hK, hc0⟩ := Kd.C_get h z52 i h0 h1
  have hc : ∀ j u, c[j]? = some u → w.cell? (ad.add (i.toNat * 2 + j)) = some u := hc0
  obtain rfl := k52_open hK
  exact ⟨ad, e, hc 0 _ rfl, by rw [← add_field _ _ 1 (by omega)]; exact hc 1 _ rfl⟩

def rd_L9 (xs : List (List S52)) (i : Int) : (List S52) := xs.getD i.toNat ([] : List S52)
theorem at_L9 {w : World} {A : Option Addr} {n : Nat} {xs : List (List S52)} (h : Kd.C (Kd.slice 52 k52) w A n xs) (i : Int) (h0 : 0 ≤ i) (h1 : i < n) : ∃ ad A0 c0, A = some ad ∧ w.cell? (ad.add i.toNat) = some (.slice A0 (rd_L9 xs i).length c0) ∧ (rd_L9 xs i).length ≤ c0 ∧ k52.C w A0 (rd_L9 xs i).length (rd_L9 xs i) := by
  obtain ⟨ad, c, e, _, hK, hc0⟩ := Kd.C_get h ([] : List S52) i h0 h1
  have hc : ∀ j u, c[j]? = some u → w.cell? (ad.add (i.toNat * 1 + j)) = some u := hc0
  obtain ⟨A0, c0, rfl, l0, g0⟩ := hK
  exact ⟨ad, A0, c0, e, by have hq := hc 0 _ rfl; rwa [Nat.mul_one, Nat.add_zero] at hq, l0, g0⟩

/-! #### struct type 117 -/
structure S117 where
  f0 : Int
  f1 : Int
def z117 : S117 := ⟨(0 : Int), (0 : Int)⟩
def k117 : Kd S117 := Kd.iso (Kd.pair (Kd.int .i64) (Kd.int .i64)) (fun x : S117 => (x.f0, x.f1))
theorem k117_open {w : World} {x : S117} {cs : List Value} (h : k117.K w x cs) : cs = [.int .i64 x.f0, .int .i64 x.f1] := by
  obtain ⟨_, _, rfl, rfl, rfl⟩ := h
  exact rfl
theorem k117_openM {w : World} {base : Nat} {ok : Nat → Prop} {x : S117} {cs : List Value} (h : k117.M w base ok x cs) : cs = [.int .i64 x.f0, .int .i64 x.f1] := by
  obtain ⟨_, _, rfl, rfl, rfl⟩ := h
  exact rfl
theorem k117_mk (w : World) (x : S117)  : k117.K w x [.int .i64 x.f0, .int .i64 x.f1] := ⟨[.int .i64 x.f0], [.int .i64 x.f1], rfl, rfl, rfl⟩
theorem k117_mkM (w : World) (base : Nat) (ok : Nat → Prop) (x : S117)  : k117.M w base ok x [.int .i64 x.f0, .int .i64 x.f1] := ⟨[.int .i64 x.f0], [.int .i64 x.f1], rfl, rfl, rfl⟩
def rd_T117 (xs : List S117) (i : Int) : S117 := xs.getD i.toNat z117
theorem at_T117 {w : World} {A : Option Addr} {n : Nat} {xs : List S117} (h : Kd.C k117 w A n xs) (i : Int) (h0 : 0 ≤ i) (h1 : i < n) : ∃ ad , A = some ad ∧ w.cell? (ad.add (i.toNat * 2)) = some (.int .i64 (rd_T117 xs i).f0) ∧ w.cell? ⟨(ad.add (i.toNat * 2)).block, (ad.add (i.toNat * 2)).off + 1, none⟩ = some (.int .i64 (rd_T117 xs i).f1) := by
  obtain ⟨ad, c, e, _, hK, hc0⟩ := Kd.C_get h z117 i h0 h1
  have hc : ∀ j u, c[j]? = some u → w.cell? (ad.add (i.toNat * 2 + j)) = some u := hc0
  obtain rfl := k117_open hK
  exact ⟨ad, e, hc 0 _ rfl, by rw [← add_field _ _ 1 (by omega)]; exact hc 1 _ rfl⟩

def rd_L11 (xs : List (List S117)) (i : Int) : (List S117) := xs.getD i.toNat ([] : List S117)
theorem at_L11 {w : World} {A : Option Addr} {n : Nat} {xs : List (List S117)} (h : Kd.C (Kd.slice 117 k117) w A n xs) (i : Int) (h0 : 0 ≤ i) (h1 : i < n) : ∃ ad A0 c0, A = some ad ∧ w.cell? (ad.add i.toNat) = some (.slice A0 (rd_L11 xs i).length c0) ∧ (rd_L11 xs i).length ≤ c0 ∧ k117.C w A0 (rd_L11 xs i).length (rd_L11 xs i) := by
  obtain ⟨ad, c, e, _, hK, hc0⟩ := Kd.C_get h ([] : List S117) i h0 h1
  have hc : ∀ j u, c[j]? = some u → w.cell? (ad.add (i.toNat * 1 + j)) = some u := hc0
  obtain ⟨A0, c0, rfl, l0, g0⟩ := hK
  exact ⟨ad, A0, c0, e, by have hq := hc 0 _ rfl; rwa [Nat.mul_one, Nat.add_zero] at hq, l0, g0⟩

/-! #### struct type 85 -/
structure S85 where
  f0 : (List S52)
  f1 : (List S117)
def z85 : S85 := ⟨([] : List S52), ([] : List S117)⟩
def k85 : Kd S85 := Kd.iso (Kd.pair (Kd.slice 52 k52) (Kd.slice 117 k117)) (fun x : S85 => (x.f0, x.f1))
theorem k85_open {w : World} {x : S85} {cs : List Value} (h : k85.K w x cs) : ∃ A0 c0 A1 c1, cs = [.slice A0 x.f0.length c0, .slice A1 x.f1.length c1] ∧ x.f0.length ≤ c0 ∧ k52.C w A0 x.f0.length x.f0 ∧ x.f1.length ≤ c1 ∧ k117.C w A1 x.f1.length x.f1 := by
  obtain ⟨_, _, rfl, ⟨A0, c0, rfl, l0, g0⟩, ⟨A1, c1, rfl, l1, g1⟩⟩ := h
  exact ⟨A0, c0, A1, c1, rfl, l0, g0, l1, g1⟩
theorem k85_openM {w : World} {base : Nat} {ok : Nat → Prop} {x : S85} {cs : List Value} (h : k85.M w base ok x cs) : ∃ v0 v1, cs = [v0, v1] ∧ k52.R 52 w base ok v0 x.f0 ∧ k117.R 117 w base ok v1 x.f1 := by
  obtain ⟨_, _, rfl, ⟨v0, rfl, g0⟩, ⟨v1, rfl, g1⟩⟩ := h
  exact ⟨v0, v1, rfl, g0, g1⟩
theorem k85_mk (w : World) (x : S85) {A0 : Option Addr} {c0 : Nat} (l0 : x.f0.length ≤ c0) (g0 : k52.C w A0 x.f0.length x.f0) {A1 : Option Addr} {c1 : Nat} (l1 : x.f1.length ≤ c1) (g1 : k117.C w A1 x.f1.length x.f1) : k85.K w x [.slice A0 x.f0.length c0, .slice A1 x.f1.length c1] := ⟨[.slice A0 x.f0.length c0], [.slice A1 x.f1.length c1], rfl, ⟨A0, c0, rfl, l0, g0⟩, ⟨A1, c1, rfl, l1, g1⟩⟩
theorem k85_mkM (w : World) (base : Nat) (ok : Nat → Prop) (x : S85) {v0 : Value} (g0 : k52.R 52 w base ok v0 x.f0) {v1 : Value} (g1 : k117.R 117 w base ok v1 x.f1) : k85.M w base ok x [v0, v1] := ⟨[v0], [v1], rfl, ⟨v0, rfl, g0⟩, ⟨v1, rfl, g1⟩⟩
def rd_T85 (xs : List S85) (i : Int) : S85 := xs.getD i.toNat z85
theorem at_T85 {w : World} {A : Option Addr} {n : Nat} {xs : List S85} (h : Kd.C k85 w A n xs) (i : Int) (h0 : 0 ≤ i) (h1 : i < n) : ∃ ad A0 c0 A1 c1, A = some ad ∧ w.cell? (ad.add (i.toNat * 2)) = some (.slice A0 (rd_T85 xs i).f0.length c0) ∧ w.cell? ⟨(ad.add (i.toNat * 2)).block, (ad.add (i.toNat * 2)).off + 1, none⟩ = some (.slice A1 (rd_T85 xs i).f1.length c1) ∧ (rd_T85 xs i).f0.length ≤ c0 ∧ k52.C w A0 (rd_T85 xs i).f0.length (rd_T85 xs i).f0 ∧ (rd_T85 xs i).f1.length ≤ c1 ∧ k117.C w A1 (rd_T85 xs i).f1.length (rd_T85 xs i).f1 := by
  obtain ⟨ad, c, e, _, hK, hc0⟩ := Kd.C_get h z85 i h0 h1
  have hc : ∀ j u, c[j]? = some u → w.cell? (ad.add (i.toNat * 2 + j)) = some u := hc0
  obtain ⟨A0, c0, A1, c1, rfl, l0, g0, l1, g1⟩ := k85_open hK
  exact ⟨ad, A0, c0, A1, c1, e, hc 0 _ rfl, by rw [← add_field _ _ 1 (by omega)]; exact hc 1 _ rfl, l0, g0, l1, g1⟩

def rd_L13 (xs : List (List S85)) (i : Int) : (List S85) := xs.getD i.toNat ([] : List S85)
theorem at_L13 {w : World} {A : Option Addr} {n : Nat} {xs : List (List S85)} (h : Kd.C (Kd.slice 85 k85) w A n xs) (i : Int) (h0 : 0 ≤ i) (h1 : i < n) : ∃ ad A0 c0, A = some ad ∧ w.cell? (ad.add i.toNat) = some (.slice A0 (rd_L13 xs i).length c0) ∧ (rd_L13 xs i).length ≤ c0 ∧ k85.C w A0 (rd_L13 xs i).length (rd_L13 xs i) := by
  obtain ⟨ad, c, e, _, hK, hc0⟩ := Kd.C_get h ([] : List S85) i h0 h1
  have hc : ∀ j u, c[j]? = some u → w.cell? (ad.add (i.toNat * 1 + j)) = some u := hc0
  obtain ⟨A0, c0, rfl, l0, g0⟩ := hK
  exact ⟨ad, A0, c0, e, by have hq := hc 0 _ rfl; rwa [Nat.mul_one, Nat.add_zero] at hq, l0, g0⟩

def rd_L14 (xs : List (List Int)) (i : Int) : (List Int) := xs.getD i.toNat ([] : List Int)
theorem at_L14 {w : World} {A : Option Addr} {n : Nat} {xs : List (List Int)} (h : Kd.C (Kd.slice 3 (Kd.int .i64)) w A n xs) (i : Int) (h0 : 0 ≤ i) (h1 : i < n) : ∃ ad A0 c0, A = some ad ∧ w.cell? (ad.add i.toNat) = some (.slice A0 (rd_L14 xs i).length c0) ∧ (rd_L14 xs i).length ≤ c0 ∧ (Kd.int .i64).C w A0 (rd_L14 xs i).length (rd_L14 xs i) := by
  obtain ⟨ad, c, e, _, hK, hc0⟩ := Kd.C_get h ([] : List Int) i h0 h1
  have hc : ∀ j u, c[j]? = some u → w.cell? (ad.add (i.toNat * 1 + j)) = some u := hc0
  obtain ⟨A0, c0, rfl, l0, g0⟩ := hK
  exact ⟨ad, A0, c0, e, by have hq := hc 0 _ rfl; rwa [Nat.mul_one, Nat.add_zero] at hq, l0, g0⟩

def rd_L15 (xs : List (List S82)) (i : Int) : (List S82) := xs.getD i.toNat ([] : List S82)
theorem at_L15 {w : World} {A : Option Addr} {n : Nat} {xs : List (List S82)} (h : Kd.C (Kd.slice 82 k82) w A n xs) (i : Int) (h0 : 0 ≤ i) (h1 : i < n) : ∃ ad A0 c0, A = some ad ∧ w.cell? (ad.add i.toNat) = some (.slice A0 (rd_L15 xs i).length c0) ∧ (rd_L15 xs i).length ≤ c0 ∧ k82.C w A0 (rd_L15 xs i).length (rd_L15 xs i) := by
  obtain ⟨ad, c, e, _, hK, hc0⟩ := Kd.C_get h ([] : List S82) i h0 h1
  have hc : ∀ j u, c[j]? = some u → w.cell? (ad.add (i.toNat * 1 + j)) = some u := hc0
  obtain ⟨A0, c0, rfl, l0, g0⟩ := hK
  exact ⟨ad, A0, c0, e, by have hq := hc 0 _ rfl; rwa [Nat.mul_one, Nat.add_zero] at hq, l0, g0⟩

def isL (c : UInt8) : Bool := decide (97 ≤ (c.toNat : Int) ∧ (c.toNat : Int) ≤ 122)
def lettersB (s : ByteArray) (n : Int) : Bool := s.data.toList.all isL && decide ((s.size : Int) ≤ n)
theorem letters_size (s : ByteArray) : s.data.toList.length = s.size := by rw [Array.length_toList]; rfl
theorem letters_bt (s : ByteArray) (k : Nat) (h : k < s.size) : bt s (k : Int) = (((s.data.toList[k]'(by rw [letters_size]; exact h)).toNat : Nat) : Int) := by
  unfold bt
  have e : (k : Int).toNat = k := by omega
  rw [dif_pos (by rw [e]; exact h)]
  rfl
theorem letters_no (s : ByteArray) (k : Nat) (h : k < s.size) (hb : ¬ (97 ≤ bt s (k : Int) ∧ bt s (k : Int) ≤ 122)) (n : Int) : lettersB s n = false := by
  have hk : k < s.data.toList.length := by rw [letters_size]; exact h
  have e := letters_bt s k h
  have : s.data.toList.all isL = false := by
    rw [List.all_eq_false]
    refine ⟨_, List.getElem_mem hk, ?_⟩
    unfold isL
    rw [e] at hb
    simpa using hb
  unfold lettersB
  rw [this, Bool.false_and]
theorem letters_step (s : ByteArray) (k : Nat) (h : k < s.size) (h0 : (s.data.toList.take k).all isL = true) (hb : 97 ≤ bt s (k : Int) ∧ bt s (k : Int) ≤ 122) : (s.data.toList.take (k + 1)).all isL = true := by
  have hk : k < s.data.toList.length := by rw [letters_size]; exact h
  rw [List.take_succ_eq_append_getElem hk, List.all_append, h0, Bool.true_and]
  have e := letters_bt s k h
  rw [e] at hb
  rw [List.all_cons, List.all_nil, Bool.and_true]
  exact decide_eq_true hb
theorem letters_end (s : ByteArray) (h0 : (s.data.toList.take s.size).all isL = true) (n : Int) : lettersB s n = decide ((s.size : Int) ≤ n) := by
  rw [← letters_size, List.take_length] at h0
  unfold lettersB
  rw [h0, Bool.true_and]
def bdS (s : ByteArray) : Bool := decide (s.size < 9223372036854775807)

def chainP {α : Type} (R : α → Bool) (lt : α → α → Bool) : Option α → List α → Bool
  | _, [] => true
  | p, x :: l => R x && (match p with | none => true | some q => lt q x) && chainP R lt (some x) l
def prevG {α : Type} (l : List α) (z : α) (i : Nat) : Option α := if i = 0 then none else some (l.getD (i - 1) z)
theorem chainP_cons {α : Type} (R : α → Bool) (lt : α → α → Bool) (p : Option α) (x : α) (l : List α) : chainP R lt p (x :: l) = (R x && (match p with | none => true | some q => lt q x) && chainP R lt (some x) l) := rfl
theorem getD_at {α : Type} {l : List α} {i : Nat} (h : i < l.length) (d : α) : l.getD i d = l[i] := by simp [List.getD, List.getElem?_eq_getElem h]
theorem prevG_succ {α : Type} (l : List α) (z : α) (i : Nat) (h : i < l.length) : prevG l z (i + 1) = some l[i] := by
  unfold prevG
  rw [if_neg (by omega), Nat.add_sub_cancel, getD_at h]
theorem chainP_step {α : Type} (R : α → Bool) (lt : α → α → Bool) (l : List α) (z : α) (i : Nat) (h : i < l.length) : chainP R lt (prevG l z i) (l.drop i) = (R l[i] && (if 0 < i then lt (l.getD (i - 1) z) l[i] else true) && chainP R lt (prevG l z (i + 1)) (l.drop (i + 1))) := by
  rw [List.drop_eq_getElem_cons h, chainP_cons, prevG_succ l z i h]
  by_cases hi : i = 0
  · subst hi; rfl
  · unfold prevG
    rw [if_neg hi, if_pos (by omega)]
theorem chainP_no1 {α : Type} (R : α → Bool) (lt : α → α → Bool) (l : List α) (z : α) (i : Nat) (h : i < l.length) (hR : R (l.getD i z) = false) : chainP R lt (prevG l z i) (l.drop i) = false := by
  rw [getD_at h] at hR
  rw [chainP_step R lt l z i h, hR, Bool.false_and, Bool.false_and]
theorem chainP_no2 {α : Type} (R : α → Bool) (lt : α → α → Bool) (l : List α) (z : α) (i : Nat) (h : i < l.length) (h0 : 0 < i) (hl : lt (l.getD (i - 1) z) (l.getD i z) = false) : chainP R lt (prevG l z i) (l.drop i) = false := by
  rw [getD_at h z] at hl
  rw [chainP_step R lt l z i h, if_pos h0, hl, Bool.and_false, Bool.false_and]
theorem chainP_on0 {α : Type} (R : α → Bool) (lt : α → α → Bool) (l : List α) (z : α) (h : 0 < l.length) (hR : R (l.getD 0 z) = true) : chainP R lt (prevG l z 0) (l.drop 0) = chainP R lt (prevG l z 1) (l.drop 1) := by
  rw [getD_at h] at hR
  rw [chainP_step R lt l z 0 h, hR, if_neg (Nat.lt_irrefl 0), Bool.true_and, Bool.true_and]
theorem chainP_on {α : Type} (R : α → Bool) (lt : α → α → Bool) (l : List α) (z : α) (i : Nat) (h : i < l.length) (h0 : 0 < i) (hR : R (l.getD i z) = true) (hl : lt (l.getD (i - 1) z) (l.getD i z) = true) : chainP R lt (prevG l z i) (l.drop i) = chainP R lt (prevG l z (i + 1)) (l.drop (i + 1)) := by
  rw [getD_at h z] at hl hR
  rw [chainP_step R lt l z i h, hR, if_pos h0, hl, Bool.true_and, Bool.true_and]
theorem chainP_end {α : Type} (R : α → Bool) (lt : α → α → Bool) (l : List α) (p : Option α) (i : Nat) (h : l.length ≤ i) : chainP R lt p (l.drop i) = true := by
  rw [List.drop_eq_nil_of_le h]
  rfl
theorem quiet_D {P : Program} {f : FuncId} {args : Array Value} {w : World} {n : Nat} {v : Value} (h : Calls P f args (w.drewN n) fun e w' => e = .returned v ∧ Drawn0 (w.drewN n) w') : Calls P f args (w.drewN n) fun e w'' => e = .returned v ∧ ∃ m, w'' = w.drewN m :=
  Calls.quiet_of (h.mono fun _ _ ⟨h1, h2⟩ => ⟨h1, h2.out⟩)

abbrev Lbl := S52
def lblR (x : Lbl) : Bool := (lettersB x.f0 6 && (x.f0.toList != [])) && lettersB x.f1 8 && (x.f1.toList != [])
def lblLt (q x : Lbl) : Bool := Op.bytesLess q.f0.toList x.f0.toList
def labelsB (l : List Lbl) : Bool := chainP lblR lblLt none l && decide (1 ≤ l.length ∧ l.length ≤ 4)
def bdL (l : List Lbl) : Bool := decide (l.length < 9223372036854775807) && l.all fun x => bdS x.f0 && bdS x.f1
theorem bdL_len {l : List Lbl} (h : bdL l = true) : l.length < 9223372036854775807 := by
  unfold bdL at h
  exact of_decide_eq_true (Bool.and_eq_true _ _ ▸ h).1
theorem bdL_at {l : List Lbl} (h : bdL l = true) {x : Lbl} (hx : x ∈ l) : x.f0.size < 9223372036854775807 ∧ x.f1.size < 9223372036854775807 := by
  unfold bdL at h
  have h2 := (Bool.and_eq_true _ _ ▸ h).2
  have h3 := List.all_eq_true.1 h2 x hx
  have h4 := (Bool.and_eq_true _ _ ▸ h3)
  exact ⟨of_decide_eq_true h4.1, of_decide_eq_true h4.2⟩

def cmpT (a b : ByteArray) : Int := if Op.bytesLess a.toList b.toList = true then -1 else if (a.toList == b.toList) = true then 0 else 1
def cmp1 (x y : Lbl) : Int := if cmpT x.f0 y.f0 = 0 then cmpT x.f1 y.f1 else cmpT x.f0 y.f0
def cmpL : List Lbl → List Lbl → Int
  | [], [] => 0
  | [], _ :: _ => -1
  | _ :: _, [] => 1
  | x :: a, y :: b => if cmp1 x y = 0 then cmpL a b else cmp1 x y
theorem cmpT_range (a b : ByteArray) : -1 ≤ cmpT a b ∧ cmpT a b ≤ 1 := by
  unfold cmpT
  split
  · omega
  · split <;> omega
theorem cmp1_range (x y : Lbl) : -1 ≤ cmp1 x y ∧ cmp1 x y ≤ 1 := by
  unfold cmp1
  split
  · exact cmpT_range _ _
  · exact cmpT_range _ _
theorem cmpL_none (a b : List Lbl) (k : Nat) (h : ¬ k < a.length) : cmpL (a.drop k) (b.drop k) = if decide (k < b.length) = true then -1 else 0 := by
  rw [List.drop_eq_nil_of_le (show a.length ≤ k by omega)]
  by_cases hb : k < b.length
  · rw [List.drop_eq_getElem_cons hb, decide_eq_true hb]; rfl
  · rw [List.drop_eq_nil_of_le (show b.length ≤ k by omega), decide_eq_false hb]; rfl
theorem cmpL_more (a b : List Lbl) (k : Nat) (h : k < a.length) (hb : ¬ k < b.length) : cmpL (a.drop k) (b.drop k) = 1 := by
  rw [List.drop_eq_getElem_cons h, List.drop_eq_nil_of_le (show b.length ≤ k by omega)]; rfl
theorem cmpL_step (a b : List Lbl) (z : Lbl) (k : Nat) (h : k < a.length) (hb : k < b.length) : cmpL (a.drop k) (b.drop k) = if cmp1 (a.getD k z) (b.getD k z) = 0 then cmpL (a.drop (k + 1)) (b.drop (k + 1)) else cmp1 (a.getD k z) (b.getD k z) := by
  rw [List.drop_eq_getElem_cons h, List.drop_eq_getElem_cons hb, getD_at h, getD_at hb]; rfl
def orI (x y : Int) : Int := if x = 0 then y else x
theorem cmp1_or (x y : Lbl) : cmp1 x y = orI (cmpT x.f0 y.f0) (cmpT x.f1 y.f1) := rfl

abbrev Smp := S117
def inR (x : Smp) : Bool := decide (0 ≤ x.f0 ∧ x.f0 ≤ 9999 ∧ 0 ≤ x.f1 ∧ x.f1 ≤ 2147483647)
def smpLt (q x : Smp) : Bool := decide (q.f0 < x.f0)
def sokP (p : Option Smp) (l : List Smp) : Bool := chainP inR smpLt p l
def sok (l : List Smp) : Bool := sokP none l

abbrev Rw := S85
def rowR (x : Rw) : Bool := labelsB x.f0 && (sok x.f1 && decide (1 ≤ (x.f1.length : Int) ∧ (x.f1.length : Int) ≤ 1000))
def rowLt (q x : Rw) : Bool := decide (cmpL q.f0 x.f0 < 0)
def rowsB (l : List Rw) : Bool := chainP rowR rowLt none l && decide ((l.length : Int) ≤ 10)
def bdW (l : List Rw) : Bool := decide (l.length < 9223372036854775807) && l.all fun x => bdL x.f0 && decide (x.f1.length < 9223372036854775807)
theorem bdW_len {l : List Rw} (h : bdW l = true) : l.length < 9223372036854775807 := by
  unfold bdW at h
  exact of_decide_eq_true (Bool.and_eq_true _ _ ▸ h).1
theorem bdW_at {l : List Rw} (h : bdW l = true) {x : Rw} (hx : x ∈ l) : bdL x.f0 = true ∧ x.f1.length < 9223372036854775807 := by
  unfold bdW at h
  have h3 := List.all_eq_true.1 (Bool.and_eq_true _ _ ▸ h).2 x hx
  have h4 := (Bool.and_eq_true _ _ ▸ h3)
  exact ⟨h4.1, of_decide_eq_true h4.2⟩

end Go.Proofs.Ytipbllegjcedgaa.QFnExactRowsOk
