-- Written by wip/tools/mk.py (this session's program, which runs the kit's print): functions, and proofs that the machine's calls do what they say.
import Derived.Test.YtidapbdlomjgcaaProg
import Derived.Below
import Derived.Deep.Draws
import Derived.Deep.AppendLies
import Derived.Maps.AppendAt
import Derived.OwnWalk
import Derived.Laws.BytesArg
import Derived.Laws.MakeOwn
import Derived.Laws.OwnMore
import Derived.Deep.OwnRows
import Derived.Tactics
import Derived.Lib.ConvBytes
import Derived.Laws.Slices
import Derived.WalkKit
import Derived.KernelRfl
import Derived.RowKit3
import Derived.Deep.LoopGhost
import Derived.Deep.QuietTactic
import Derived.BigQuiet
import Derived.WideLaws
import Derived.Deep.DeepCutAuto
import Derived.Deep.CutBlock
import Derived.Deep.RegionHeld3
import Derived.Laws.Rows
import Derived.Lib.AppendStr
import Derived.ArgAppend
import Derived.Laws.IdiomCopy
import Derived.OrdersHeld
import Derived.Laws.BitsLemmas
import Derived.RowKit
import Derived.RangeFuncCalls
import Derived.Shelf.RegionOpen
import Derived.RangeFuncSeq
import Derived.RangeFuncFrom
import Derived.LoopIn
import Derived.LoopNIn
import Derived.TacticsInMore
import Derived.Test.YtidapbdlomjgcaaWWords
import Derived.Test.YtidapbdlomjgcaaWLast
import Derived.Test.YtidapbdlomjgcaaWTab
import Derived.Test.YtidapbdlomjgcaaWFour
import Derived.Test.YtidapbdlomjgcaaWQPut
import Derived.Test.YtidapbdlomjgcaaWApart
import Derived.Test.YtidapbdlomjgcaaWArr
import Derived.Test.YtidapbdlomjgcaaWZeros
import Derived.Test.YtidapbdlomjgcaaWFoot
import Derived.Test.YtidapbdlomjgcaaWKept
import Derived.Test.YtidapbdlomjgcaaWShare
import Derived.Test.YtidapbdlomjgcaaWN
import Derived.Test.YtidapbdlomjgcaaWFootNe
import Derived.Test.YtidapbdlomjgcaaWAt
import Derived.Test.YtidapbdlomjgcaaWEqStruct
import Derived.Test.YtidapbdlomjgcaaWRepsOne
import Derived.Test.YtidapbdlomjgcaaWInv
import Derived.Test.YtidapbdlomjgcaaWInvWords
import Derived.Test.YtidapbdlomjgcaaWGuard
import Derived.Test.YtidapbdlomjgcaaWNEv
import Derived.Test.YtidapbdlomjgcaaWMore
import Derived.Test.YtidapbdlomjgcaaWOwn
namespace Go.Proofs.Ytidapbdlomjgcaa.QFnBitsGet
open Go.RowKit Go.Proofs.YtidapbdlomjgcaaW.PrintWords Go.Proofs.YtidapbdlomjgcaaW.PrintLast Go.Proofs.YtidapbdlomjgcaaW.PrintMore
attribute [local go_sem] IntKind.wrap_u8 max2_int min2_int max_two min_two max_three min_three max_four min_four   -- for this text's walks alone
set_option linter.unusedVariables false
set_option linter.unusedSimpArgs false



def errW : Option Int → Value
  | none => .nilIface
  | some c => .iface 0 (.int .i64 c)
theorem errW_none : errW none = .nilIface := rfl
theorem errW_some (c : Int) : errW (some c) = .iface 0 (.int .i64 c) := rfl

theorem info3 : (Try.prog.info? 3).map (fun i => (i.zero, i.size, i.bytes)) = some (some (.int .i64 0), 1, 8) := by kernel_rfl
theorem info5 : (Try.prog.info? 5).map (fun i => (i.zero, i.size, i.bytes)) = some (some (.int .u8 0), 1, 1) := by kernel_rfl
-- the values' own types

def bitOf (s : ByteArray) (p : Nat) : Int := (bt s ((p / 8 : Nat) : Int) / 2 ^ (7 - p % 8)) % 2
def numV (s : ByteArray) (at_ : Nat) : Nat → Int
  | 0 => 0
  | k + 1 => 2 * numV s at_ k + bitOf s (at_ + k)
theorem bitOf_range (s : ByteArray) (p : Nat) : 0 ≤ bitOf s p ∧ bitOf s p ≤ 1 := by
  unfold bitOf
  omega
theorem numV_range (s : ByteArray) (at_ k : Nat) : 0 ≤ numV s at_ k ∧ numV s at_ k < 2 ^ k := by
  induction k with
  | zero => exact ⟨Int.le_refl _, by show (0 : Int) < 2 ^ 0; decide⟩
  | succ k ih =>
    have h := bitOf_range s (at_ + k)
    rw [numV, Int.pow_succ]
    omega
theorem numV_small (s : ByteArray) (at_ k : Nat) (hk : k ≤ 60) : 0 ≤ numV s at_ k ∧ numV s at_ k ≤ 1152921504606846976 := by
  have h := numV_range s at_ k
  have e : (2 : Int) ^ k = ((2 ^ k : Nat) : Int) := by simp
  have l : 2 ^ k ≤ 2 ^ 60 := Nat.pow_le_pow_right (by decide) hk
  rw [e] at h
  omega
theorem and_one_i64 (n : Nat) (h : n < 4611686018427387904) : Go.bits .and .i64 (n : Int) 1 = ((n % 2 : Nat) : Int) := by
  have h1 : n % 2 ^ IntKind.i64.bits = n := Nat.mod_eq_of_lt (by simp [IntKind.bits]; omega)
  have e : (1 : Int) = ((1 : Nat) : Int) := rfl
  have h2 : 1 % 2 ^ IntKind.i64.bits = 1 := by decide
  rw [e]
  simp only [Go.bits, BitVec.ofInt_natCast, BitVec.toNat_and, BitVec.toNat_ofNat, h1, h2, Nat.and_one_is_mod]
  rw [IntKind.wrap_i64]
  omega
theorem bitOf_eq (s : ByteArray) (p c : Nat) (h : p / 8 < s.size) (y : Int) (hy : ((s[p / 8]'h).toNat : Int) = y) (hc : 7 - p % 8 = c) : Go.bits .and .i64 (y / 2 ^ c) 1 = bitOf s p := by
  have hb := (s[p / 8]'h).toNat_lt
  have e1 : bt s ((p / 8 : Nat) : Int) = ((s[p / 8]'h).toNat : Int) := by
    unfold bt
    have e : ((p / 8 : Nat) : Int).toNat = p / 8 := by omega
    simp only [e]
    rw [dif_pos h]
  have e2 : y / 2 ^ c = (((s[p / 8]'h).toNat / 2 ^ c : Nat) : Int) := by rw [← hy]; simp
  unfold bitOf
  rw [e1, hy, hc, e2, and_one_i64 _ (Nat.lt_of_le_of_lt (Nat.div_le_self _ _) (by omega))]
  simp

end Go.Proofs.Ytidapbdlomjgcaa.QFnBitsGet
