/-
  No cell of these rows narrows 'for every input' (looked for: loops, veiled, ifaces, maps, wideKeys, modest, calm, conditions, laid).
  DERIVED. THE GIVEN ROWS OF THIS SEAT. 12 by the template 'for every input the law returns true; each argument reads behind the call as it read before'; 0 by the template 'total and deterministic' (their statements: YtidapbdlomjgcaaTotals.lean).
  GIVEN WITH THE SEED: the statements are not yours to turn. If you find one false, say at which input.
  Laid BY PROGRAM, IN A SANDBOX (cutbox-rows.mjs): the forced cells as the released guide's own fill.sh prints them over the translation 8b5aa4c645b76368… (all of the seat's roots in one cut). By AI agents, Wed Nov 11 2026. No macro, syntax, notation, axiom, sorry.
-/
import Derived.Test.YtidapbdlomjgcaaChecked
import GoSem.Claim
import GoSem.ClaimJoined
import GoSem.ClaimMapViews
import Derived.JoinedTies
import Derived.KernelRfl
namespace Go.Proofs.Ytidapbdlomjgcaa
/- THE CELL 'sum', in the pinned program and in every row, IS THE sha256 OF THE DUMP (.gsa) THAT YtidapbdlomjgcaaProg.lean LOADS. Nothing in Lean hashes anything: it is a label: what it is worth is what the hold of that sum in a sandbox is worth. -/
noncomputable def Try.pinned : Pinned := { name := "ytidapbdlomjgcaa", sum := "8b5aa4c645b763686f5fa1d7bb0c1522d0e93ad140c9c40589e2a6bf9d9ff1b1", checked := Try.checked }
namespace Rows
def none {H : Type} : Left H := { results := [], args := [] }

/-- 'laws.FnExactConstants': WHATEVER THE INPUT: true; the input reads as it did. -/
def fnExactConstantsSpec : ChangeSpec := { name := "fnExactConstants", fn := fun _ => fun
  | [] => { results := [.lit (.bool true)], args := [] }
  | _ => none }
def fnExactConstantsRow : OpenClaim := { program := "ytidapbdlomjgcaa", sum := "8b5aa4c645b763686f5fa1d7bb0c1522d0e93ad140c9c40589e2a6bf9d9ff1b1", func := "loop.example/almanack/laws.FnExactConstants", spec := "fnExactConstants", apart := false }
def FnExactConstantsSaid : Prop := fnExactConstantsRow.holds Try.pinned (OpenSpec.ofChange fnExactConstantsSpec)

/-- ITS FALSE NEIGHBOUR: 'it returns false'. Refute it at one input. -/
def fnExactConstantsWrong : ChangeSpec := { name := "fnExactConstants", fn := fun _ => fun
  | [] => { results := [.lit (.bool false)], args := [] }
  | _ => none }
def FnExactConstantsWrongFalsely : Prop := fnExactConstantsRow.holds Try.pinned (OpenSpec.ofChange fnExactConstantsWrong)

/-- 'laws.FnExactHex': WHATEVER THE INPUT: true; the input reads as it did. -/
def fnExactHexSpec : ChangeSpec := { name := "fnExactHex", fn := fun _ => fun
  | [d] => { results := [.lit (.bool true)], args := [d] }
  | _ => none }
def fnExactHexRow : OpenClaim := { program := "ytidapbdlomjgcaa", sum := "8b5aa4c645b763686f5fa1d7bb0c1522d0e93ad140c9c40589e2a6bf9d9ff1b1", func := "loop.example/almanack/laws.FnExactHex", spec := "fnExactHex", apart := false }
def FnExactHexSaid : Prop := fnExactHexRow.holds Try.pinned (OpenSpec.ofChange fnExactHexSpec)

/-- ITS FALSE NEIGHBOUR: 'it returns false'. Refute it at one input. -/
def fnExactHexWrong : ChangeSpec := { name := "fnExactHex", fn := fun _ => fun
  | [d] => { results := [.lit (.bool false)], args := [d] }
  | _ => none }
def FnExactHexWrongFalsely : Prop := fnExactHexRow.holds Try.pinned (OpenSpec.ofChange fnExactHexWrong)

/-- 'laws.FnExactZag': WHATEVER THE INPUT: true; the input reads as it did. -/
def fnExactZagSpec : ChangeSpec := { name := "fnExactZag", fn := fun _ => fun
  | [d] => { results := [.lit (.bool true)], args := [d] }
  | _ => none }
def fnExactZagRow : OpenClaim := { program := "ytidapbdlomjgcaa", sum := "8b5aa4c645b763686f5fa1d7bb0c1522d0e93ad140c9c40589e2a6bf9d9ff1b1", func := "loop.example/almanack/laws.FnExactZag", spec := "fnExactZag", apart := false }
def FnExactZagSaid : Prop := fnExactZagRow.holds Try.pinned (OpenSpec.ofChange fnExactZagSpec)

/-- ITS FALSE NEIGHBOUR: 'it returns false'. Refute it at one input. -/
def fnExactZagWrong : ChangeSpec := { name := "fnExactZag", fn := fun _ => fun
  | [d] => { results := [.lit (.bool false)], args := [d] }
  | _ => none }
def FnExactZagWrongFalsely : Prop := fnExactZagRow.holds Try.pinned (OpenSpec.ofChange fnExactZagWrong)

/-- 'laws.FnExactZig': WHATEVER THE INPUT: true; the input reads as it did. -/
def fnExactZigSpec : ChangeSpec := { name := "fnExactZig", fn := fun _ => fun
  | [d] => { results := [.lit (.bool true)], args := [d] }
  | _ => none }
def fnExactZigRow : OpenClaim := { program := "ytidapbdlomjgcaa", sum := "8b5aa4c645b763686f5fa1d7bb0c1522d0e93ad140c9c40589e2a6bf9d9ff1b1", func := "loop.example/almanack/laws.FnExactZig", spec := "fnExactZig", apart := false }
def FnExactZigSaid : Prop := fnExactZigRow.holds Try.pinned (OpenSpec.ofChange fnExactZigSpec)

/-- ITS FALSE NEIGHBOUR: 'it returns false'. Refute it at one input. -/
def fnExactZigWrong : ChangeSpec := { name := "fnExactZig", fn := fun _ => fun
  | [d] => { results := [.lit (.bool false)], args := [d] }
  | _ => none }
def FnExactZigWrongFalsely : Prop := fnExactZigRow.holds Try.pinned (OpenSpec.ofChange fnExactZigWrong)

/-- 'laws.FnExactCrc32': WHATEVER THE INPUT: true; the input reads as it did. -/
def fnExactCrc32Spec : ChangeSpec := { name := "fnExactCrc32", fn := fun _ => fun
  | [d] => { results := [.lit (.bool true)], args := [d] }
  | _ => none }
def fnExactCrc32Row : OpenClaim := { program := "ytidapbdlomjgcaa", sum := "8b5aa4c645b763686f5fa1d7bb0c1522d0e93ad140c9c40589e2a6bf9d9ff1b1", func := "loop.example/almanack/laws.FnExactCrc32", spec := "fnExactCrc32", apart := false }
def FnExactCrc32Said : Prop := fnExactCrc32Row.holds Try.pinned (OpenSpec.ofChange fnExactCrc32Spec)

/-- ITS FALSE NEIGHBOUR: 'it returns false'. Refute it at one input. -/
def fnExactCrc32Wrong : ChangeSpec := { name := "fnExactCrc32", fn := fun _ => fun
  | [d] => { results := [.lit (.bool false)], args := [d] }
  | _ => none }
def FnExactCrc32WrongFalsely : Prop := fnExactCrc32Row.holds Try.pinned (OpenSpec.ofChange fnExactCrc32Wrong)

/-- 'laws.FnExactListOk': WHATEVER THE INPUT: true; the input reads as it did. -/
def fnExactListOkSpec : ChangeSpec := { name := "fnExactListOk", fn := fun _ => fun
  | [d] => { results := [.lit (.bool true)], args := [d] }
  | _ => none }
def fnExactListOkRow : OpenClaim := { program := "ytidapbdlomjgcaa", sum := "8b5aa4c645b763686f5fa1d7bb0c1522d0e93ad140c9c40589e2a6bf9d9ff1b1", func := "loop.example/almanack/laws.FnExactListOk", spec := "fnExactListOk", apart := false }
def FnExactListOkSaid : Prop := fnExactListOkRow.holds Try.pinned (OpenSpec.ofChange fnExactListOkSpec)

/-- ITS FALSE NEIGHBOUR: 'it returns false'. Refute it at one input. -/
def fnExactListOkWrong : ChangeSpec := { name := "fnExactListOk", fn := fun _ => fun
  | [d] => { results := [.lit (.bool false)], args := [d] }
  | _ => none }
def FnExactListOkWrongFalsely : Prop := fnExactListOkRow.holds Try.pinned (OpenSpec.ofChange fnExactListOkWrong)

/-- 'laws.FnExactBitsGet': WHATEVER THE INPUT: true; the input reads as it did. -/
def fnExactBitsGetSpec : ChangeSpec := { name := "fnExactBitsGet", fn := fun _ => fun
  | [d1, d2, d3] => { results := [.lit (.bool true)], args := [d1, d2, d3] }
  | _ => none }
def fnExactBitsGetRow : OpenClaim := { program := "ytidapbdlomjgcaa", sum := "8b5aa4c645b763686f5fa1d7bb0c1522d0e93ad140c9c40589e2a6bf9d9ff1b1", func := "loop.example/almanack/laws.FnExactBitsGet", spec := "fnExactBitsGet", unfollowed := true, recurses := true, apart := false }
def FnExactBitsGetSaid : Prop := fnExactBitsGetRow.holds Try.pinned (OpenSpec.ofChange fnExactBitsGetSpec)

/-- ITS FALSE NEIGHBOUR: 'it returns false'. Refute it at one input. -/
def fnExactBitsGetWrong : ChangeSpec := { name := "fnExactBitsGet", fn := fun _ => fun
  | [d1, d2, d3] => { results := [.lit (.bool false)], args := [d1, d2, d3] }
  | _ => none }
def FnExactBitsGetWrongFalsely : Prop := fnExactBitsGetRow.holds Try.pinned (OpenSpec.ofChange fnExactBitsGetWrong)

/-- 'laws.FnExactHexGet': WHATEVER THE INPUT: true; the input reads as it did. -/
def fnExactHexGetSpec : ChangeSpec := { name := "fnExactHexGet", fn := fun _ => fun
  | [d] => { results := [.lit (.bool true)], args := [d] }
  | _ => none }
def fnExactHexGetRow : OpenClaim := { program := "ytidapbdlomjgcaa", sum := "8b5aa4c645b763686f5fa1d7bb0c1522d0e93ad140c9c40589e2a6bf9d9ff1b1", func := "loop.example/almanack/laws.FnExactHexGet", spec := "fnExactHexGet", apart := false }
def FnExactHexGetSaid : Prop := fnExactHexGetRow.holds Try.pinned (OpenSpec.ofChange fnExactHexGetSpec)

/-- ITS FALSE NEIGHBOUR: 'it returns false'. Refute it at one input. -/
def fnExactHexGetWrong : ChangeSpec := { name := "fnExactHexGet", fn := fun _ => fun
  | [d] => { results := [.lit (.bool false)], args := [d] }
  | _ => none }
def FnExactHexGetWrongFalsely : Prop := fnExactHexGetRow.holds Try.pinned (OpenSpec.ofChange fnExactHexGetWrong)

/-- 'laws.FnCrc32': WHATEVER THE INPUT: true; the input reads as it did. -/
def fnCrc32Spec : ChangeSpec := { name := "fnCrc32", fn := fun _ => fun
  | [d1, d2] => { results := [.lit (.bool true)], args := [d1, d2] }
  | _ => none }
def fnCrc32Row : OpenClaim := { program := "ytidapbdlomjgcaa", sum := "8b5aa4c645b763686f5fa1d7bb0c1522d0e93ad140c9c40589e2a6bf9d9ff1b1", func := "loop.example/almanack/laws.FnCrc32", spec := "fnCrc32", apart := false }
def FnCrc32Said : Prop := fnCrc32Row.holds Try.pinned (OpenSpec.ofChange fnCrc32Spec)

/-- ITS FALSE NEIGHBOUR: 'it returns false'. Refute it at one input. -/
def fnCrc32Wrong : ChangeSpec := { name := "fnCrc32", fn := fun _ => fun
  | [d1, d2] => { results := [.lit (.bool false)], args := [d1, d2] }
  | _ => none }
def FnCrc32WrongFalsely : Prop := fnCrc32Row.holds Try.pinned (OpenSpec.ofChange fnCrc32Wrong)

/-- 'laws.FnExactSamplesOk': WHATEVER THE INPUT: true; the input reads as it did. -/
def fnExactSamplesOkSpec : ChangeSpec := { name := "fnExactSamplesOk", fn := fun _ => fun
  | [d] => { results := [.lit (.bool true)], args := [d] }
  | _ => none }
def fnExactSamplesOkRow : OpenClaim := { program := "ytidapbdlomjgcaa", sum := "8b5aa4c645b763686f5fa1d7bb0c1522d0e93ad140c9c40589e2a6bf9d9ff1b1", func := "loop.example/almanack/laws.FnExactSamplesOk", spec := "fnExactSamplesOk", apart := false }
def FnExactSamplesOkSaid : Prop := fnExactSamplesOkRow.holds Try.pinned (OpenSpec.ofChange fnExactSamplesOkSpec)

/-- ITS FALSE NEIGHBOUR: 'it returns false'. Refute it at one input. -/
def fnExactSamplesOkWrong : ChangeSpec := { name := "fnExactSamplesOk", fn := fun _ => fun
  | [d] => { results := [.lit (.bool false)], args := [d] }
  | _ => none }
def FnExactSamplesOkWrongFalsely : Prop := fnExactSamplesOkRow.holds Try.pinned (OpenSpec.ofChange fnExactSamplesOkWrong)

/-- 'laws.FnZig': WHATEVER THE INPUT: true; the input reads as it did. -/
def fnZigSpec : ChangeSpec := { name := "fnZig", fn := fun _ => fun
  | [d1, d2] => { results := [.lit (.bool true)], args := [d1, d2] }
  | _ => none }
def fnZigRow : OpenClaim := { program := "ytidapbdlomjgcaa", sum := "8b5aa4c645b763686f5fa1d7bb0c1522d0e93ad140c9c40589e2a6bf9d9ff1b1", func := "loop.example/almanack/laws.FnZig", spec := "fnZig", apart := false }
def FnZigSaid : Prop := fnZigRow.holds Try.pinned (OpenSpec.ofChange fnZigSpec)

/-- ITS FALSE NEIGHBOUR: 'it returns false'. Refute it at one input. -/
def fnZigWrong : ChangeSpec := { name := "fnZig", fn := fun _ => fun
  | [d1, d2] => { results := [.lit (.bool false)], args := [d1, d2] }
  | _ => none }
def FnZigWrongFalsely : Prop := fnZigRow.holds Try.pinned (OpenSpec.ofChange fnZigWrong)

/-- 'laws.FnBitsGet': WHATEVER THE INPUT: true; the input reads as it did. -/
def fnBitsGetSpec : ChangeSpec := { name := "fnBitsGet", fn := fun _ => fun
  | [d] => { results := [.lit (.bool true)], args := [d] }
  | _ => none }
def fnBitsGetRow : OpenClaim := { program := "ytidapbdlomjgcaa", sum := "8b5aa4c645b763686f5fa1d7bb0c1522d0e93ad140c9c40589e2a6bf9d9ff1b1", func := "loop.example/almanack/laws.FnBitsGet", spec := "fnBitsGet", unfollowed := true, recurses := true, apart := false }
def FnBitsGetSaid : Prop := fnBitsGetRow.holds Try.pinned (OpenSpec.ofChange fnBitsGetSpec)

/-- ITS FALSE NEIGHBOUR: 'it returns false'. Refute it at one input. -/
def fnBitsGetWrong : ChangeSpec := { name := "fnBitsGet", fn := fun _ => fun
  | [d] => { results := [.lit (.bool false)], args := [d] }
  | _ => none }
def FnBitsGetWrongFalsely : Prop := fnBitsGetRow.holds Try.pinned (OpenSpec.ofChange fnBitsGetWrong)

/- THE SECOND FORM. 'bulk': how many values and letters a reading holds, each counted each time it is reached (what is shared counts as often as it is met; a slice's spare places count too). A statement '..UptoSaid' is the law's where the arguments, and the package variables that the reading takes, are together of bulk at most 1048576: NARROWER than '..Said'. Prove '..Said' where nothing that the law and all that it calls make is longer than what came in: it says more and counts as full. Else prove '..UptoSaid'. A law counts once. -/
mutual
def uptoBulk {H : Type} : DataW H → Nat
  | .lit (.string bytes) => bytes.length + 1
  | .lit _ => 1
  | .nil => 1
  | .ptr d => uptoBulk d + 1
  | .slice elems spare => uptoBulkAll elems + uptoBulkAll spare + 1
  | .agg parts => uptoBulkAll parts + 1
  | .iface _ d => uptoBulk d + 1
  | .map entries => uptoBulkEntries entries + 1
  | .held _ => 1
def uptoBulkAll {H : Type} : List (DataW H) → Nat
  | [] => 0
  | d :: r => uptoBulk d + uptoBulkAll r
def uptoBulkEntries {H : Type} : List (Lit × DataW H) → Nat
  | [] => 0
  | x :: r => uptoBulkEntry x + uptoBulkEntries r
def uptoBulkEntry {H : Type} : Lit × DataW H → Nat
  | (.string bytes, d) => bytes.length + uptoBulk d + 1
  | (_, d) => uptoBulk d + 1
 end
def uptoSmall : (H : Type) → List (DataW H) → Bool := fun _ ds => decide (uptoBulkAll ds ≤ 1048576)
def OpenSpec.upto (s : _root_.Go.ChangeSpec) : _root_.Go.OpenSpec := { _root_.Go.OpenSpec.ofChange s with cond := some uptoSmall }

/-- 'laws.FnExactConstants', WHERE WHAT IT READS IS OF BULK AT MOST 1048576: true; the input reads as it did. -/
def fnExactConstantsUptoRow : OpenClaim := { program := "ytidapbdlomjgcaa", sum := "8b5aa4c645b763686f5fa1d7bb0c1522d0e93ad140c9c40589e2a6bf9d9ff1b1", func := "loop.example/almanack/laws.FnExactConstants", spec := "fnExactConstants", apart := false, narrowed := true }
def FnExactConstantsUptoSaid : Prop := fnExactConstantsUptoRow.holds Try.pinned (OpenSpec.upto fnExactConstantsSpec)

/-- 'laws.FnExactHex', WHERE WHAT IT READS IS OF BULK AT MOST 1048576: true; the input reads as it did. -/
def fnExactHexUptoRow : OpenClaim := { program := "ytidapbdlomjgcaa", sum := "8b5aa4c645b763686f5fa1d7bb0c1522d0e93ad140c9c40589e2a6bf9d9ff1b1", func := "loop.example/almanack/laws.FnExactHex", spec := "fnExactHex", apart := false, narrowed := true }
def FnExactHexUptoSaid : Prop := fnExactHexUptoRow.holds Try.pinned (OpenSpec.upto fnExactHexSpec)

/-- 'laws.FnExactZag', WHERE WHAT IT READS IS OF BULK AT MOST 1048576: true; the input reads as it did. -/
def fnExactZagUptoRow : OpenClaim := { program := "ytidapbdlomjgcaa", sum := "8b5aa4c645b763686f5fa1d7bb0c1522d0e93ad140c9c40589e2a6bf9d9ff1b1", func := "loop.example/almanack/laws.FnExactZag", spec := "fnExactZag", apart := false, narrowed := true }
def FnExactZagUptoSaid : Prop := fnExactZagUptoRow.holds Try.pinned (OpenSpec.upto fnExactZagSpec)

/-- 'laws.FnExactZig', WHERE WHAT IT READS IS OF BULK AT MOST 1048576: true; the input reads as it did. -/
def fnExactZigUptoRow : OpenClaim := { program := "ytidapbdlomjgcaa", sum := "8b5aa4c645b763686f5fa1d7bb0c1522d0e93ad140c9c40589e2a6bf9d9ff1b1", func := "loop.example/almanack/laws.FnExactZig", spec := "fnExactZig", apart := false, narrowed := true }
def FnExactZigUptoSaid : Prop := fnExactZigUptoRow.holds Try.pinned (OpenSpec.upto fnExactZigSpec)

/-- 'laws.FnExactCrc32', WHERE WHAT IT READS IS OF BULK AT MOST 1048576: true; the input reads as it did. -/
def fnExactCrc32UptoRow : OpenClaim := { program := "ytidapbdlomjgcaa", sum := "8b5aa4c645b763686f5fa1d7bb0c1522d0e93ad140c9c40589e2a6bf9d9ff1b1", func := "loop.example/almanack/laws.FnExactCrc32", spec := "fnExactCrc32", apart := false, narrowed := true }
def FnExactCrc32UptoSaid : Prop := fnExactCrc32UptoRow.holds Try.pinned (OpenSpec.upto fnExactCrc32Spec)

/-- 'laws.FnExactListOk', WHERE WHAT IT READS IS OF BULK AT MOST 1048576: true; the input reads as it did. -/
def fnExactListOkUptoRow : OpenClaim := { program := "ytidapbdlomjgcaa", sum := "8b5aa4c645b763686f5fa1d7bb0c1522d0e93ad140c9c40589e2a6bf9d9ff1b1", func := "loop.example/almanack/laws.FnExactListOk", spec := "fnExactListOk", apart := false, narrowed := true }
def FnExactListOkUptoSaid : Prop := fnExactListOkUptoRow.holds Try.pinned (OpenSpec.upto fnExactListOkSpec)

/-- 'laws.FnExactBitsGet', WHERE WHAT IT READS IS OF BULK AT MOST 1048576: true; the input reads as it did. -/
def fnExactBitsGetUptoRow : OpenClaim := { program := "ytidapbdlomjgcaa", sum := "8b5aa4c645b763686f5fa1d7bb0c1522d0e93ad140c9c40589e2a6bf9d9ff1b1", func := "loop.example/almanack/laws.FnExactBitsGet", spec := "fnExactBitsGet", unfollowed := true, recurses := true, apart := false, narrowed := true }
def FnExactBitsGetUptoSaid : Prop := fnExactBitsGetUptoRow.holds Try.pinned (OpenSpec.upto fnExactBitsGetSpec)

/-- 'laws.FnExactHexGet', WHERE WHAT IT READS IS OF BULK AT MOST 1048576: true; the input reads as it did. -/
def fnExactHexGetUptoRow : OpenClaim := { program := "ytidapbdlomjgcaa", sum := "8b5aa4c645b763686f5fa1d7bb0c1522d0e93ad140c9c40589e2a6bf9d9ff1b1", func := "loop.example/almanack/laws.FnExactHexGet", spec := "fnExactHexGet", apart := false, narrowed := true }
def FnExactHexGetUptoSaid : Prop := fnExactHexGetUptoRow.holds Try.pinned (OpenSpec.upto fnExactHexGetSpec)

/-- 'laws.FnCrc32', WHERE WHAT IT READS IS OF BULK AT MOST 1048576: true; the input reads as it did. -/
def fnCrc32UptoRow : OpenClaim := { program := "ytidapbdlomjgcaa", sum := "8b5aa4c645b763686f5fa1d7bb0c1522d0e93ad140c9c40589e2a6bf9d9ff1b1", func := "loop.example/almanack/laws.FnCrc32", spec := "fnCrc32", apart := false, narrowed := true }
def FnCrc32UptoSaid : Prop := fnCrc32UptoRow.holds Try.pinned (OpenSpec.upto fnCrc32Spec)

/-- 'laws.FnExactSamplesOk', WHERE WHAT IT READS IS OF BULK AT MOST 1048576: true; the input reads as it did. -/
def fnExactSamplesOkUptoRow : OpenClaim := { program := "ytidapbdlomjgcaa", sum := "8b5aa4c645b763686f5fa1d7bb0c1522d0e93ad140c9c40589e2a6bf9d9ff1b1", func := "loop.example/almanack/laws.FnExactSamplesOk", spec := "fnExactSamplesOk", apart := false, narrowed := true }
def FnExactSamplesOkUptoSaid : Prop := fnExactSamplesOkUptoRow.holds Try.pinned (OpenSpec.upto fnExactSamplesOkSpec)

/-- 'laws.FnZig', WHERE WHAT IT READS IS OF BULK AT MOST 1048576: true; the input reads as it did. -/
def fnZigUptoRow : OpenClaim := { program := "ytidapbdlomjgcaa", sum := "8b5aa4c645b763686f5fa1d7bb0c1522d0e93ad140c9c40589e2a6bf9d9ff1b1", func := "loop.example/almanack/laws.FnZig", spec := "fnZig", apart := false, narrowed := true }
def FnZigUptoSaid : Prop := fnZigUptoRow.holds Try.pinned (OpenSpec.upto fnZigSpec)

/-- 'laws.FnBitsGet', WHERE WHAT IT READS IS OF BULK AT MOST 1048576: true; the input reads as it did. -/
def fnBitsGetUptoRow : OpenClaim := { program := "ytidapbdlomjgcaa", sum := "8b5aa4c645b763686f5fa1d7bb0c1522d0e93ad140c9c40589e2a6bf9d9ff1b1", func := "loop.example/almanack/laws.FnBitsGet", spec := "fnBitsGet", unfollowed := true, recurses := true, apart := false, narrowed := true }
def FnBitsGetUptoSaid : Prop := fnBitsGetUptoRow.holds Try.pinned (OpenSpec.upto fnBitsGetSpec)

end Rows
end Go.Proofs.Ytidapbdlomjgcaa
