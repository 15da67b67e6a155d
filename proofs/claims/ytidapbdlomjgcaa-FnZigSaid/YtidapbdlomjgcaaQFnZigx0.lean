-- Written by wip/tools/mk.py (this session's program, which runs the kit's print): functions, and proofs that the machine's calls do what they say.
import Derived.Test.YtidapbdlomjgcaaProg
import Derived.Below
import Derived.Deep.Draws
import Derived.Deep.AppendLies
import Derived.Maps.AppendAt
import Derived.OwnWalk
import Derived.Laws.BytesArg
import Derived.Laws.MakeOwn
import Derived.Laws.OwnMore
import Derived.Deep.OwnRows
import Derived.Tactics
import Derived.Lib.ConvBytes
import Derived.Laws.Slices
import Derived.WalkKit
import Derived.KernelRfl
import Derived.RowKit3
import Derived.Deep.LoopGhost
import Derived.Deep.QuietTactic
import Derived.BigQuiet
import Derived.WideLaws
import Derived.Deep.DeepCutAuto
import Derived.Deep.CutBlock
import Derived.Deep.RegionHeld3
import Derived.Laws.Rows
import Derived.Lib.AppendStr
import Derived.ArgAppend
import Derived.Laws.IdiomCopy
import Derived.OrdersHeld
import Derived.Laws.BitsLemmas
import Derived.RowKit
import Derived.Test.YtidapbdlomjgcaaWWords
import Derived.Test.YtidapbdlomjgcaaWLast
import Derived.Test.YtidapbdlomjgcaaWTab
import Derived.Test.YtidapbdlomjgcaaWFour
import Derived.Test.YtidapbdlomjgcaaWQPut
import Derived.Test.YtidapbdlomjgcaaWApart
import Derived.Test.YtidapbdlomjgcaaWArr
import Derived.Test.YtidapbdlomjgcaaWZeros
import Derived.Test.YtidapbdlomjgcaaWFoot
import Derived.Test.YtidapbdlomjgcaaWKept
import Derived.Test.YtidapbdlomjgcaaWShare
import Derived.Test.YtidapbdlomjgcaaWN
import Derived.Test.YtidapbdlomjgcaaWFootNe
import Derived.Test.YtidapbdlomjgcaaWAt
import Derived.Test.YtidapbdlomjgcaaWEqStruct
import Derived.Test.YtidapbdlomjgcaaWRepsOne
import Derived.Test.YtidapbdlomjgcaaWInv
import Derived.Test.YtidapbdlomjgcaaWInvWords
import Derived.Test.YtidapbdlomjgcaaWGuard
import Derived.Test.YtidapbdlomjgcaaWNEv
import Derived.Test.YtidapbdlomjgcaaWMore
import Derived.Test.YtidapbdlomjgcaaWOwn
namespace Go.Proofs.Ytidapbdlomjgcaa.QFnZig
open Go.RowKit Go.Proofs.YtidapbdlomjgcaaW.PrintWords Go.Proofs.YtidapbdlomjgcaaW.PrintLast Go.Proofs.YtidapbdlomjgcaaW.PrintMore
attribute [local go_sem] IntKind.wrap_u8 max2_int min2_int max_two min_two max_three min_three max_four min_four   -- for this text's walks alone
set_option linter.unusedVariables false
set_option linter.unusedSimpArgs false



def errW : Option Int → Value
  | none => .nilIface
  | some c => .iface 0 (.int .i64 c)
theorem errW_none : errW none = .nilIface := rfl
theorem errW_some (c : Int) : errW (some c) = .iface 0 (.int .i64 c) := rfl

theorem info3 : (Try.prog.info? 3).map (fun i => (i.zero, i.size, i.bytes)) = some (some (.int .i64 0), 1, 8) := by kernel_rfl
theorem info5 : (Try.prog.info? 5).map (fun i => (i.zero, i.size, i.bytes)) = some (some (.int .u8 0), 1, 1) := by kernel_rfl
-- the values' own types

end Go.Proofs.Ytidapbdlomjgcaa.QFnZig
