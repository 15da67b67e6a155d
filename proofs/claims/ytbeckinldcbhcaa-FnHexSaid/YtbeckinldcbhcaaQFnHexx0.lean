-- Written by wip/tools/mk.py (this session's program, which runs the kit's print): functions, and proofs that the machine's calls do what they say.
import Derived.Test.YtbeckinldcbhcaaProg
import Derived.Below
import Derived.Deep.Draws
import Derived.Deep.AppendLies
import Derived.Maps.AppendAt
import Derived.OwnWalk
import Derived.Laws.BytesArg
import Derived.Laws.MakeOwn
import Derived.Laws.OwnMore
import Derived.Deep.OwnRows
import Derived.Tactics
import Derived.Lib.ConvBytes
import Derived.Laws.Slices
import Derived.WalkKit
import Derived.KernelRfl
import Derived.RowKit3
import Derived.Deep.LoopGhost
import Derived.Deep.QuietTactic
import Derived.BigQuiet
import Derived.WideLaws
import Derived.Deep.DeepCutAuto
import Derived.Deep.CutBlock
import Derived.Deep.RegionHeld3
import Derived.Laws.Rows
import Derived.Lib.AppendStr
import Derived.ArgAppend
import Derived.Laws.IdiomCopy
import Derived.OrdersHeld
import Derived.Laws.BitsLemmas
import Derived.RowKit
import Derived.Lib.SlBytesConst
import Derived.Test.YtbeckinldcbhcaaWWords
import Derived.Test.YtbeckinldcbhcaaWLast
import Derived.Test.YtbeckinldcbhcaaWTab
import Derived.Test.YtbeckinldcbhcaaWFour
import Derived.Test.YtbeckinldcbhcaaWQPut
import Derived.Test.YtbeckinldcbhcaaWApart
import Derived.Test.YtbeckinldcbhcaaWArr
import Derived.Test.YtbeckinldcbhcaaWZeros
import Derived.Test.YtbeckinldcbhcaaWFoot
import Derived.Test.YtbeckinldcbhcaaWKept
import Derived.Test.YtbeckinldcbhcaaWShare
import Derived.Test.YtbeckinldcbhcaaWN
import Derived.Test.YtbeckinldcbhcaaWFootNe
import Derived.Test.YtbeckinldcbhcaaWAt
import Derived.Test.YtbeckinldcbhcaaWEqStruct
import Derived.Test.YtbeckinldcbhcaaWRepsOne
import Derived.Test.YtbeckinldcbhcaaWInv
import Derived.Test.YtbeckinldcbhcaaWInvWords
import Derived.Test.YtbeckinldcbhcaaWGuard
import Derived.Test.YtbeckinldcbhcaaWNEv
import Derived.Test.YtbeckinldcbhcaaWMore
import Derived.Test.YtbeckinldcbhcaaWOwn
namespace Go.Proofs.Ytbeckinldcbhcaa.QFnHex
open Go.RowKit Go.Proofs.YtbeckinldcbhcaaW.PrintWords Go.Proofs.YtbeckinldcbhcaaW.PrintLast Go.Proofs.YtbeckinldcbhcaaW.PrintMore
attribute [local go_sem] IntKind.wrap_u8 max2_int min2_int max_two min_two max_three min_three max_four min_four   -- for this text's walks alone
set_option linter.unusedVariables false
set_option linter.unusedSimpArgs false



def errW : Option Int → Value
  | none => .nilIface
  | some c => .iface 0 (.int .i64 c)
theorem errW_none : errW none = .nilIface := rfl
theorem errW_some (c : Int) : errW (some c) = .iface 0 (.int .i64 c) := rfl

theorem info3 : (Try.prog.info? 3).map (fun i => (i.zero, i.size, i.bytes)) = some (some (.int .i64 0), 1, 8) := by kernel_rfl
theorem info5 : (Try.prog.info? 5).map (fun i => (i.zero, i.size, i.bytes)) = some (some (.int .u8 0), 1, 1) := by kernel_rfl
theorem info9 : (Try.prog.info? 9).map (fun i => (i.zero, i.size, i.bytes)) = some (some (.string ⟨#[]⟩), 1, 16) := by kernel_rfl
-- the values' own types

def figV (b : Int) : Int := if 48 ≤ b ∧ b ≤ 57 then b - 48 else if 97 ≤ b ∧ b ≤ 102 then b - 87 else -1
theorem figV_lt (b : Int) : -1 ≤ figV b ∧ figV b ≤ 15 := by
  unfold figV
  split
  · omega
  · split <;> omega
def hexGetV : List UInt8 → List Int → ByteArray × Bool
  | [], acc => (strOfNums acc, true)
  | [_], _ => (⟨#[]⟩, false)
  | a :: b :: l, acc => if figV (a.toNat : Int) < 0 then (⟨#[]⟩, false) else if figV (b.toNat : Int) < 0 then (⟨#[]⟩, false) else hexGetV l (acc ++ [(16 * figV (a.toNat : Int) + figV (b.toNat : Int)) % 256])
theorem hexGetV_odd : ∀ (l : List UInt8) (acc : List Int), l.length % 2 = 1 → hexGetV l acc = (⟨#[]⟩, false)
  | [], _, h => by simp at h
  | [_], _, _ => by rw [hexGetV]
  | a :: b :: l, acc, h => by
    rw [hexGetV]
    split
    · rfl
    · split
      · rfl
      · exact hexGetV_odd l _ (by simp only [List.length_cons] at h; omega)
theorem hex_two (s : ByteArray) (i : Nat) (h : i + 1 < s.size) : ∃ x y : Int, (∀ h : i < s.size, ((s[i]'h).toNat : Int) = x) ∧ (∀ h : i + 1 < s.size, ((s[i + 1]'h).toNat : Int) = y) ∧ (0 ≤ x ∧ x < 256) ∧ (0 ≤ y ∧ y < 256) ∧ ∀ acc, hexGetV (s.data.toList.drop i) acc = if figV x < 0 then (⟨#[]⟩, false) else if figV y < 0 then (⟨#[]⟩, false) else hexGetV (s.data.toList.drop (i + 2)) (acc ++ [(16 * figV x + figV y) % 256]) := by
  have h1 : i < s.data.toList.length := by rw [Array.length_toList]; show i < s.size; omega
  have h2 : i + 1 < s.data.toList.length := by rw [Array.length_toList]; exact h
  have ha := (s.data.toList[i]).toNat_lt
  have hb := (s.data.toList[i + 1]).toNat_lt
  refine ⟨((s.data.toList[i]).toNat : Int), ((s.data.toList[i + 1]).toNat : Int), fun _ => rfl, fun _ => rfl, ⟨by omega, by omega⟩, ⟨by omega, by omega⟩, fun acc => ?_⟩
  rw [List.drop_eq_getElem_cons h1, List.drop_eq_getElem_cons h2, hexGetV]

end Go.Proofs.Ytbeckinldcbhcaa.QFnHex
