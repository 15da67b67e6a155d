/-
  No cell of these rows narrows 'for every input' (looked for: loops, veiled, ifaces, maps, wideKeys, modest, calm, conditions, laid).
  DERIVED. THE GIVEN ROWS OF THIS SEAT. 7 by the template 'for every input the law returns true; each argument reads behind the call as it read before'; 0 by the template 'total and deterministic' (their statements: YtbeckinldcbhcaaTotals.lean).
  GIVEN WITH THE SEED: the statements are not yours to turn. If you find one false, say at which input.
  Laid BY PROGRAM, IN A SANDBOX (cutbox-rows.mjs): the forced cells as the released guide's own fill.sh prints them over the translation 01e88178d77c9d84… (all of the seat's roots in one cut). By AI agents, Wed Nov 11 2026. No macro, syntax, notation, axiom, sorry.
-/
import Derived.Test.YtbeckinldcbhcaaChecked
import GoSem.Claim
import GoSem.ClaimJoined
import GoSem.ClaimMapViews
import Derived.JoinedTies
import Derived.KernelRfl
namespace Go.Proofs.Ytbeckinldcbhcaa
/- THE CELL 'sum', in the pinned program and in every row, IS THE sha256 OF THE DUMP (.gsa) THAT YtbeckinldcbhcaaProg.lean LOADS. Nothing in Lean hashes anything: it is a label: what it is worth is what the hold of that sum in a sandbox is worth. -/
noncomputable def Try.pinned : Pinned := { name := "ytbeckinldcbhcaa", sum := "01e88178d77c9d84f921fd0749807c8eedb7f38e99f9481a3083ea9eb257a057", checked := Try.checked }
namespace Rows
def none {H : Type} : Left H := { results := [], args := [] }

/-- 'laws.FnHex': WHATEVER THE INPUT: true; the input reads as it did. -/
def fnHexSpec : ChangeSpec := { name := "fnHex", fn := fun _ => fun
  | [d1, d2] => { results := [.lit (.bool true)], args := [d1, d2] }
  | _ => none }
def fnHexRow : OpenClaim := { program := "ytbeckinldcbhcaa", sum := "01e88178d77c9d84f921fd0749807c8eedb7f38e99f9481a3083ea9eb257a057", func := "loop.example/almanack/laws.FnHex", spec := "fnHex", apart := false }
def FnHexSaid : Prop := fnHexRow.holds Try.pinned (OpenSpec.ofChange fnHexSpec)

/-- ITS FALSE NEIGHBOUR: 'it returns false'. Refute it at one input. -/
def fnHexWrong : ChangeSpec := { name := "fnHex", fn := fun _ => fun
  | [d1, d2] => { results := [.lit (.bool false)], args := [d1, d2] }
  | _ => none }
def FnHexWrongFalsely : Prop := fnHexRow.holds Try.pinned (OpenSpec.ofChange fnHexWrong)

/-- 'laws.FnExactBitsPut': WHATEVER THE INPUT: true; the input reads as it did. -/
def fnExactBitsPutSpec : ChangeSpec := { name := "fnExactBitsPut", fn := fun _ => fun
  | [d] => { results := [.lit (.bool true)], args := [d] }
  | _ => none }
def fnExactBitsPutRow : OpenClaim := { program := "ytbeckinldcbhcaa", sum := "01e88178d77c9d84f921fd0749807c8eedb7f38e99f9481a3083ea9eb257a057", func := "loop.example/almanack/laws.FnExactBitsPut", spec := "fnExactBitsPut", apart := false }
def FnExactBitsPutSaid : Prop := fnExactBitsPutRow.holds Try.pinned (OpenSpec.ofChange fnExactBitsPutSpec)

/-- ITS FALSE NEIGHBOUR: 'it returns false'. Refute it at one input. -/
def fnExactBitsPutWrong : ChangeSpec := { name := "fnExactBitsPut", fn := fun _ => fun
  | [d] => { results := [.lit (.bool false)], args := [d] }
  | _ => none }
def FnExactBitsPutWrongFalsely : Prop := fnExactBitsPutRow.holds Try.pinned (OpenSpec.ofChange fnExactBitsPutWrong)

/-- 'laws.FnBits': WHATEVER THE INPUT: true; the input reads as it did. -/
def fnBitsSpec : ChangeSpec := { name := "fnBits", fn := fun _ => fun
  | [d] => { results := [.lit (.bool true)], args := [d] }
  | _ => none }
def fnBitsRow : OpenClaim := { program := "ytbeckinldcbhcaa", sum := "01e88178d77c9d84f921fd0749807c8eedb7f38e99f9481a3083ea9eb257a057", func := "loop.example/almanack/laws.FnBits", spec := "fnBits", unfollowed := true, recurses := true, apart := false }
def FnBitsSaid : Prop := fnBitsRow.holds Try.pinned (OpenSpec.ofChange fnBitsSpec)

/-- ITS FALSE NEIGHBOUR: 'it returns false'. Refute it at one input. -/
def fnBitsWrong : ChangeSpec := { name := "fnBits", fn := fun _ => fun
  | [d] => { results := [.lit (.bool false)], args := [d] }
  | _ => none }
def FnBitsWrongFalsely : Prop := fnBitsRow.holds Try.pinned (OpenSpec.ofChange fnBitsWrong)

/-- 'laws.FnExactSamplesCut': WHATEVER THE INPUT: true; the input reads as it did. -/
def fnExactSamplesCutSpec : ChangeSpec := { name := "fnExactSamplesCut", fn := fun _ => fun
  | [d1, d2, d3] => { results := [.lit (.bool true)], args := [d1, d2, d3] }
  | _ => none }
def fnExactSamplesCutRow : OpenClaim := { program := "ytbeckinldcbhcaa", sum := "01e88178d77c9d84f921fd0749807c8eedb7f38e99f9481a3083ea9eb257a057", func := "loop.example/almanack/laws.FnExactSamplesCut", spec := "fnExactSamplesCut", unfollowed := true, recurses := true, apart := false }
def FnExactSamplesCutSaid : Prop := fnExactSamplesCutRow.holds Try.pinned (OpenSpec.ofChange fnExactSamplesCutSpec)

/-- ITS FALSE NEIGHBOUR: 'it returns false'. Refute it at one input. -/
def fnExactSamplesCutWrong : ChangeSpec := { name := "fnExactSamplesCut", fn := fun _ => fun
  | [d1, d2, d3] => { results := [.lit (.bool false)], args := [d1, d2, d3] }
  | _ => none }
def FnExactSamplesCutWrongFalsely : Prop := fnExactSamplesCutRow.holds Try.pinned (OpenSpec.ofChange fnExactSamplesCutWrong)

/-- 'laws.FnExactSamplesJoin': WHATEVER THE INPUT: true; the input reads as it did. -/
def fnExactSamplesJoinSpec : ChangeSpec := { name := "fnExactSamplesJoin", fn := fun _ => fun
  | [d1, d2] => { results := [.lit (.bool true)], args := [d1, d2] }
  | _ => none }
def fnExactSamplesJoinRow : OpenClaim := { program := "ytbeckinldcbhcaa", sum := "01e88178d77c9d84f921fd0749807c8eedb7f38e99f9481a3083ea9eb257a057", func := "loop.example/almanack/laws.FnExactSamplesJoin", spec := "fnExactSamplesJoin", unfollowed := true, recurses := true, apart := false }
def FnExactSamplesJoinSaid : Prop := fnExactSamplesJoinRow.holds Try.pinned (OpenSpec.ofChange fnExactSamplesJoinSpec)

/-- ITS FALSE NEIGHBOUR: 'it returns false'. Refute it at one input. -/
def fnExactSamplesJoinWrong : ChangeSpec := { name := "fnExactSamplesJoin", fn := fun _ => fun
  | [d1, d2] => { results := [.lit (.bool false)], args := [d1, d2] }
  | _ => none }
def FnExactSamplesJoinWrongFalsely : Prop := fnExactSamplesJoinRow.holds Try.pinned (OpenSpec.ofChange fnExactSamplesJoinWrong)

/-- 'laws.FnSamplesJoin': WHATEVER THE INPUT: true; the input reads as it did. -/
def fnSamplesJoinSpec : ChangeSpec := { name := "fnSamplesJoin", fn := fun _ => fun
  | [d] => { results := [.lit (.bool true)], args := [d] }
  | _ => none }
def fnSamplesJoinRow : OpenClaim := { program := "ytbeckinldcbhcaa", sum := "01e88178d77c9d84f921fd0749807c8eedb7f38e99f9481a3083ea9eb257a057", func := "loop.example/almanack/laws.FnSamplesJoin", spec := "fnSamplesJoin", unfollowed := true, recurses := true, apart := false }
def FnSamplesJoinSaid : Prop := fnSamplesJoinRow.holds Try.pinned (OpenSpec.ofChange fnSamplesJoinSpec)

/-- ITS FALSE NEIGHBOUR: 'it returns false'. Refute it at one input. -/
def fnSamplesJoinWrong : ChangeSpec := { name := "fnSamplesJoin", fn := fun _ => fun
  | [d] => { results := [.lit (.bool false)], args := [d] }
  | _ => none }
def FnSamplesJoinWrongFalsely : Prop := fnSamplesJoinRow.holds Try.pinned (OpenSpec.ofChange fnSamplesJoinWrong)

/-- 'laws.FnSamplesCut': WHATEVER THE INPUT: true; the input reads as it did. -/
def fnSamplesCutSpec : ChangeSpec := { name := "fnSamplesCut", fn := fun _ => fun
  | [d] => { results := [.lit (.bool true)], args := [d] }
  | _ => none }
def fnSamplesCutRow : OpenClaim := { program := "ytbeckinldcbhcaa", sum := "01e88178d77c9d84f921fd0749807c8eedb7f38e99f9481a3083ea9eb257a057", func := "loop.example/almanack/laws.FnSamplesCut", spec := "fnSamplesCut", unfollowed := true, recurses := true, apart := false }
def FnSamplesCutSaid : Prop := fnSamplesCutRow.holds Try.pinned (OpenSpec.ofChange fnSamplesCutSpec)

/-- ITS FALSE NEIGHBOUR: 'it returns false'. Refute it at one input. -/
def fnSamplesCutWrong : ChangeSpec := { name := "fnSamplesCut", fn := fun _ => fun
  | [d] => { results := [.lit (.bool false)], args := [d] }
  | _ => none }
def FnSamplesCutWrongFalsely : Prop := fnSamplesCutRow.holds Try.pinned (OpenSpec.ofChange fnSamplesCutWrong)

/- THE SECOND FORM. 'bulk': how many values and letters a reading holds, each counted each time it is reached (what is shared counts as often as it is met; a slice's spare places count too). A statement '..UptoSaid' is the law's where the arguments, and the package variables that the reading takes, are together of bulk at most 1048576: NARROWER than '..Said'. Prove '..Said' where nothing that the law and all that it calls make is longer than what came in: it says more and counts as full. Else prove '..UptoSaid'. A law counts once. -/
mutual
def uptoBulk {H : Type} : DataW H → Nat
  | .lit (.string bytes) => bytes.length + 1
  | .lit _ => 1
  | .nil => 1
  | .ptr d => uptoBulk d + 1
  | .slice elems spare => uptoBulkAll elems + uptoBulkAll spare + 1
  | .agg parts => uptoBulkAll parts + 1
  | .iface _ d => uptoBulk d + 1
  | .map entries => uptoBulkEntries entries + 1
  | .held _ => 1
def uptoBulkAll {H : Type} : List (DataW H) → Nat
  | [] => 0
  | d :: r => uptoBulk d + uptoBulkAll r
def uptoBulkEntries {H : Type} : List (Lit × DataW H) → Nat
  | [] => 0
  | x :: r => uptoBulkEntry x + uptoBulkEntries r
def uptoBulkEntry {H : Type} : Lit × DataW H → Nat
  | (.string bytes, d) => bytes.length + uptoBulk d + 1
  | (_, d) => uptoBulk d + 1
 end
def uptoSmall : (H : Type) → List (DataW H) → Bool := fun _ ds => decide (uptoBulkAll ds ≤ 1048576)
def OpenSpec.upto (s : _root_.Go.ChangeSpec) : _root_.Go.OpenSpec := { _root_.Go.OpenSpec.ofChange s with cond := some uptoSmall }

/-- 'laws.FnHex', WHERE WHAT IT READS IS OF BULK AT MOST 1048576: true; the input reads as it did. -/
def fnHexUptoRow : OpenClaim := { program := "ytbeckinldcbhcaa", sum := "01e88178d77c9d84f921fd0749807c8eedb7f38e99f9481a3083ea9eb257a057", func := "loop.example/almanack/laws.FnHex", spec := "fnHex", apart := false, narrowed := true }
def FnHexUptoSaid : Prop := fnHexUptoRow.holds Try.pinned (OpenSpec.upto fnHexSpec)

/-- 'laws.FnExactBitsPut', WHERE WHAT IT READS IS OF BULK AT MOST 1048576: true; the input reads as it did. -/
def fnExactBitsPutUptoRow : OpenClaim := { program := "ytbeckinldcbhcaa", sum := "01e88178d77c9d84f921fd0749807c8eedb7f38e99f9481a3083ea9eb257a057", func := "loop.example/almanack/laws.FnExactBitsPut", spec := "fnExactBitsPut", apart := false, narrowed := true }
def FnExactBitsPutUptoSaid : Prop := fnExactBitsPutUptoRow.holds Try.pinned (OpenSpec.upto fnExactBitsPutSpec)

/-- 'laws.FnBits', WHERE WHAT IT READS IS OF BULK AT MOST 1048576: true; the input reads as it did. -/
def fnBitsUptoRow : OpenClaim := { program := "ytbeckinldcbhcaa", sum := "01e88178d77c9d84f921fd0749807c8eedb7f38e99f9481a3083ea9eb257a057", func := "loop.example/almanack/laws.FnBits", spec := "fnBits", unfollowed := true, recurses := true, apart := false, narrowed := true }
def FnBitsUptoSaid : Prop := fnBitsUptoRow.holds Try.pinned (OpenSpec.upto fnBitsSpec)

/-- 'laws.FnExactSamplesCut', WHERE WHAT IT READS IS OF BULK AT MOST 1048576: true; the input reads as it did. -/
def fnExactSamplesCutUptoRow : OpenClaim := { program := "ytbeckinldcbhcaa", sum := "01e88178d77c9d84f921fd0749807c8eedb7f38e99f9481a3083ea9eb257a057", func := "loop.example/almanack/laws.FnExactSamplesCut", spec := "fnExactSamplesCut", unfollowed := true, recurses := true, apart := false, narrowed := true }
def FnExactSamplesCutUptoSaid : Prop := fnExactSamplesCutUptoRow.holds Try.pinned (OpenSpec.upto fnExactSamplesCutSpec)

/-- 'laws.FnExactSamplesJoin', WHERE WHAT IT READS IS OF BULK AT MOST 1048576: true; the input reads as it did. -/
def fnExactSamplesJoinUptoRow : OpenClaim := { program := "ytbeckinldcbhcaa", sum := "01e88178d77c9d84f921fd0749807c8eedb7f38e99f9481a3083ea9eb257a057", func := "loop.example/almanack/laws.FnExactSamplesJoin", spec := "fnExactSamplesJoin", unfollowed := true, recurses := true, apart := false, narrowed := true }
def FnExactSamplesJoinUptoSaid : Prop := fnExactSamplesJoinUptoRow.holds Try.pinned (OpenSpec.upto fnExactSamplesJoinSpec)

/-- 'laws.FnSamplesJoin', WHERE WHAT IT READS IS OF BULK AT MOST 1048576: true; the input reads as it did. -/
def fnSamplesJoinUptoRow : OpenClaim := { program := "ytbeckinldcbhcaa", sum := "01e88178d77c9d84f921fd0749807c8eedb7f38e99f9481a3083ea9eb257a057", func := "loop.example/almanack/laws.FnSamplesJoin", spec := "fnSamplesJoin", unfollowed := true, recurses := true, apart := false, narrowed := true }
def FnSamplesJoinUptoSaid : Prop := fnSamplesJoinUptoRow.holds Try.pinned (OpenSpec.upto fnSamplesJoinSpec)

/-- 'laws.FnSamplesCut', WHERE WHAT IT READS IS OF BULK AT MOST 1048576: true; the input reads as it did. -/
def fnSamplesCutUptoRow : OpenClaim := { program := "ytbeckinldcbhcaa", sum := "01e88178d77c9d84f921fd0749807c8eedb7f38e99f9481a3083ea9eb257a057", func := "loop.example/almanack/laws.FnSamplesCut", spec := "fnSamplesCut", unfollowed := true, recurses := true, apart := false, narrowed := true }
def FnSamplesCutUptoSaid : Prop := fnSamplesCutUptoRow.holds Try.pinned (OpenSpec.upto fnSamplesCutSpec)

end Rows
end Go.Proofs.Ytbeckinldcbhcaa
