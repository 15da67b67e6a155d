/-
  No cell of these rows narrows 'for every input' (looked for: loops, veiled, ifaces, maps, wideKeys, modest, calm, conditions, laid).
  DERIVED. THE GIVEN ROWS OF THIS SEAT. 8 by the template 'for every input the law returns true; each argument reads behind the call as it read before'; 0 by the template 'total and deterministic' (their statements: YtipbllegjcedgaaTotals.lean).
  GIVEN WITH THE SEED: the statements are not yours to turn. If you find one false, say at which input.
  Laid BY PROGRAM, IN A SANDBOX (cutbox-rows.mjs): the forced cells as the released guide's own fill.sh prints them over the translation 5f0ee018d47938b9… (all of the seat's roots in one cut). By AI agents, Wed Nov 11 2026. No macro, syntax, notation, axiom, sorry.
-/
import Derived.Test.YtipbllegjcedgaaChecked
import GoSem.Claim
import GoSem.ClaimJoined
import GoSem.ClaimMapViews
import Derived.JoinedTies
import Derived.KernelRfl
namespace Go.Proofs.Ytipbllegjcedgaa
/- THE CELL 'sum', in the pinned program and in every row, IS THE sha256 OF THE DUMP (.gsa) THAT YtipbllegjcedgaaProg.lean LOADS. Nothing in Lean hashes anything: it is a label: what it is worth is what the hold of that sum in a sandbox is worth. -/
noncomputable def Try.pinned : Pinned := { name := "ytipbllegjcedgaa", sum := "5f0ee018d47938b958229c7835b5586e5833fcb07673d0269f4c821a73bbc3ff", checked := Try.checked }
namespace Rows
def none {H : Type} : Left H := { results := [], args := [] }

/-- 'laws.FnExactLabelsCmp': WHATEVER THE INPUT: true; the input reads as it did. -/
def fnExactLabelsCmpSpec : ChangeSpec := { name := "fnExactLabelsCmp", fn := fun _ => fun
  | [d1, d2] => { results := [.lit (.bool true)], args := [d1, d2] }
  | _ => none }
def fnExactLabelsCmpRow : OpenClaim := { program := "ytipbllegjcedgaa", sum := "5f0ee018d47938b958229c7835b5586e5833fcb07673d0269f4c821a73bbc3ff", func := "loop.example/almanack/laws.FnExactLabelsCmp", spec := "fnExactLabelsCmp", unfollowed := true, recurses := true, apart := false }
def FnExactLabelsCmpSaid : Prop := fnExactLabelsCmpRow.holds Try.pinned (OpenSpec.ofChange fnExactLabelsCmpSpec)

/-- ITS FALSE NEIGHBOUR: 'it returns false'. Refute it at one input. -/
def fnExactLabelsCmpWrong : ChangeSpec := { name := "fnExactLabelsCmp", fn := fun _ => fun
  | [d1, d2] => { results := [.lit (.bool false)], args := [d1, d2] }
  | _ => none }
def FnExactLabelsCmpWrongFalsely : Prop := fnExactLabelsCmpRow.holds Try.pinned (OpenSpec.ofChange fnExactLabelsCmpWrong)

/-- 'laws.FnExactLabelsPut': WHATEVER THE INPUT: true; the input reads as it did. -/
def fnExactLabelsPutSpec : ChangeSpec := { name := "fnExactLabelsPut", fn := fun _ => fun
  | [d] => { results := [.lit (.bool true)], args := [d] }
  | _ => none }
def fnExactLabelsPutRow : OpenClaim := { program := "ytipbllegjcedgaa", sum := "5f0ee018d47938b958229c7835b5586e5833fcb07673d0269f4c821a73bbc3ff", func := "loop.example/almanack/laws.FnExactLabelsPut", spec := "fnExactLabelsPut", inPlace := ["internal/abi.NoEscape", "internal/bytealg.MakeNoZero"], apart := false }
def FnExactLabelsPutSaid : Prop := fnExactLabelsPutRow.holds Try.pinned (OpenSpec.ofChange fnExactLabelsPutSpec)

/-- ITS FALSE NEIGHBOUR: 'it returns false'. Refute it at one input. -/
def fnExactLabelsPutWrong : ChangeSpec := { name := "fnExactLabelsPut", fn := fun _ => fun
  | [d] => { results := [.lit (.bool false)], args := [d] }
  | _ => none }
def FnExactLabelsPutWrongFalsely : Prop := fnExactLabelsPutRow.holds Try.pinned (OpenSpec.ofChange fnExactLabelsPutWrong)

/-- 'laws.FnLabelsCmp': WHATEVER THE INPUT: true; the input reads as it did. -/
def fnLabelsCmpSpec : ChangeSpec := { name := "fnLabelsCmp", fn := fun _ => fun
  | [d1, d2] => { results := [.lit (.bool true)], args := [d1, d2] }
  | _ => none }
def fnLabelsCmpRow : OpenClaim := { program := "ytipbllegjcedgaa", sum := "5f0ee018d47938b958229c7835b5586e5833fcb07673d0269f4c821a73bbc3ff", func := "loop.example/almanack/laws.FnLabelsCmp", spec := "fnLabelsCmp", unfollowed := true, recurses := true, apart := false }
def FnLabelsCmpSaid : Prop := fnLabelsCmpRow.holds Try.pinned (OpenSpec.ofChange fnLabelsCmpSpec)

/-- ITS FALSE NEIGHBOUR: 'it returns false'. Refute it at one input. -/
def fnLabelsCmpWrong : ChangeSpec := { name := "fnLabelsCmp", fn := fun _ => fun
  | [d1, d2] => { results := [.lit (.bool false)], args := [d1, d2] }
  | _ => none }
def FnLabelsCmpWrongFalsely : Prop := fnLabelsCmpRow.holds Try.pinned (OpenSpec.ofChange fnLabelsCmpWrong)

/-- 'laws.FnExactMatchesPut': WHATEVER THE INPUT: true; the input reads as it did. -/
def fnExactMatchesPutSpec : ChangeSpec := { name := "fnExactMatchesPut", fn := fun _ => fun
  | [d] => { results := [.lit (.bool true)], args := [d] }
  | _ => none }
def fnExactMatchesPutRow : OpenClaim := { program := "ytipbllegjcedgaa", sum := "5f0ee018d47938b958229c7835b5586e5833fcb07673d0269f4c821a73bbc3ff", func := "loop.example/almanack/laws.FnExactMatchesPut", spec := "fnExactMatchesPut", inPlace := ["internal/abi.NoEscape", "internal/bytealg.MakeNoZero"], unfollowed := true, recurses := true, apart := false }
def FnExactMatchesPutSaid : Prop := fnExactMatchesPutRow.holds Try.pinned (OpenSpec.ofChange fnExactMatchesPutSpec)

/-- ITS FALSE NEIGHBOUR: 'it returns false'. Refute it at one input. -/
def fnExactMatchesPutWrong : ChangeSpec := { name := "fnExactMatchesPut", fn := fun _ => fun
  | [d] => { results := [.lit (.bool false)], args := [d] }
  | _ => none }
def FnExactMatchesPutWrongFalsely : Prop := fnExactMatchesPutRow.holds Try.pinned (OpenSpec.ofChange fnExactMatchesPutWrong)

/-- 'laws.FnMatchesLet': WHATEVER THE INPUT: true; the input reads as it did. -/
def fnMatchesLetSpec : ChangeSpec := { name := "fnMatchesLet", fn := fun _ => fun
  | [d] => { results := [.lit (.bool true)], args := [d] }
  | _ => none }
def fnMatchesLetRow : OpenClaim := { program := "ytipbllegjcedgaa", sum := "5f0ee018d47938b958229c7835b5586e5833fcb07673d0269f4c821a73bbc3ff", func := "loop.example/almanack/laws.FnMatchesLet", spec := "fnMatchesLet", unfollowed := true, recurses := true, apart := false }
def FnMatchesLetSaid : Prop := fnMatchesLetRow.holds Try.pinned (OpenSpec.ofChange fnMatchesLetSpec)

/-- ITS FALSE NEIGHBOUR: 'it returns false'. Refute it at one input. -/
def fnMatchesLetWrong : ChangeSpec := { name := "fnMatchesLet", fn := fun _ => fun
  | [d] => { results := [.lit (.bool false)], args := [d] }
  | _ => none }
def FnMatchesLetWrongFalsely : Prop := fnMatchesLetRow.holds Try.pinned (OpenSpec.ofChange fnMatchesLetWrong)

/-- 'laws.FnMatchesSome': WHATEVER THE INPUT: true; the input reads as it did. -/
def fnMatchesSomeSpec : ChangeSpec := { name := "fnMatchesSome", fn := fun _ => fun
  | [d] => { results := [.lit (.bool true)], args := [d] }
  | _ => none }
def fnMatchesSomeRow : OpenClaim := { program := "ytipbllegjcedgaa", sum := "5f0ee018d47938b958229c7835b5586e5833fcb07673d0269f4c821a73bbc3ff", func := "loop.example/almanack/laws.FnMatchesSome", spec := "fnMatchesSome", unfollowed := true, recurses := true, apart := false }
def FnMatchesSomeSaid : Prop := fnMatchesSomeRow.holds Try.pinned (OpenSpec.ofChange fnMatchesSomeSpec)

/-- ITS FALSE NEIGHBOUR: 'it returns false'. Refute it at one input. -/
def fnMatchesSomeWrong : ChangeSpec := { name := "fnMatchesSome", fn := fun _ => fun
  | [d] => { results := [.lit (.bool false)], args := [d] }
  | _ => none }
def FnMatchesSomeWrongFalsely : Prop := fnMatchesSomeRow.holds Try.pinned (OpenSpec.ofChange fnMatchesSomeWrong)

/-- 'laws.FnExactMatchesLet': WHATEVER THE INPUT: true; the input reads as it did. -/
def fnExactMatchesLetSpec : ChangeSpec := { name := "fnExactMatchesLet", fn := fun _ => fun
  | [d1, d2] => { results := [.lit (.bool true)], args := [d1, d2] }
  | _ => none }
def fnExactMatchesLetRow : OpenClaim := { program := "ytipbllegjcedgaa", sum := "5f0ee018d47938b958229c7835b5586e5833fcb07673d0269f4c821a73bbc3ff", func := "loop.example/almanack/laws.FnExactMatchesLet", spec := "fnExactMatchesLet", unfollowed := true, recurses := true, apart := false }
def FnExactMatchesLetSaid : Prop := fnExactMatchesLetRow.holds Try.pinned (OpenSpec.ofChange fnExactMatchesLetSpec)

/-- ITS FALSE NEIGHBOUR: 'it returns false'. Refute it at one input. -/
def fnExactMatchesLetWrong : ChangeSpec := { name := "fnExactMatchesLet", fn := fun _ => fun
  | [d1, d2] => { results := [.lit (.bool false)], args := [d1, d2] }
  | _ => none }
def FnExactMatchesLetWrongFalsely : Prop := fnExactMatchesLetRow.holds Try.pinned (OpenSpec.ofChange fnExactMatchesLetWrong)

/-- 'laws.FnExactRowsOk': WHATEVER THE INPUT: true; the input reads as it did. -/
def fnExactRowsOkSpec : ChangeSpec := { name := "fnExactRowsOk", fn := fun _ => fun
  | [d] => { results := [.lit (.bool true)], args := [d] }
  | _ => none }
def fnExactRowsOkRow : OpenClaim := { program := "ytipbllegjcedgaa", sum := "5f0ee018d47938b958229c7835b5586e5833fcb07673d0269f4c821a73bbc3ff", func := "loop.example/almanack/laws.FnExactRowsOk", spec := "fnExactRowsOk", unfollowed := true, recurses := true, apart := false }
def FnExactRowsOkSaid : Prop := fnExactRowsOkRow.holds Try.pinned (OpenSpec.ofChange fnExactRowsOkSpec)

/-- ITS FALSE NEIGHBOUR: 'it returns false'. Refute it at one input. -/
def fnExactRowsOkWrong : ChangeSpec := { name := "fnExactRowsOk", fn := fun _ => fun
  | [d] => { results := [.lit (.bool false)], args := [d] }
  | _ => none }
def FnExactRowsOkWrongFalsely : Prop := fnExactRowsOkRow.holds Try.pinned (OpenSpec.ofChange fnExactRowsOkWrong)

/- THE SECOND FORM. 'bulk': how many values and letters a reading holds, each counted each time it is reached (what is shared counts as often as it is met; a slice's spare places count too). A statement '..UptoSaid' is the law's where the arguments, and the package variables that the reading takes, are together of bulk at most 1048576: NARROWER than '..Said'. Prove '..Said' where nothing that the law and all that it calls make is longer than what came in: it says more and counts as full. Else prove '..UptoSaid'. A law counts once. -/
mutual
def uptoBulk {H : Type} : DataW H → Nat
  | .lit (.string bytes) => bytes.length + 1
  | .lit _ => 1
  | .nil => 1
  | .ptr d => uptoBulk d + 1
  | .slice elems spare => uptoBulkAll elems + uptoBulkAll spare + 1
  | .agg parts => uptoBulkAll parts + 1
  | .iface _ d => uptoBulk d + 1
  | .map entries => uptoBulkEntries entries + 1
  | .held _ => 1
def uptoBulkAll {H : Type} : List (DataW H) → Nat
  | [] => 0
  | d :: r => uptoBulk d + uptoBulkAll r
def uptoBulkEntries {H : Type} : List (Lit × DataW H) → Nat
  | [] => 0
  | x :: r => uptoBulkEntry x + uptoBulkEntries r
def uptoBulkEntry {H : Type} : Lit × DataW H → Nat
  | (.string bytes, d) => bytes.length + uptoBulk d + 1
  | (_, d) => uptoBulk d + 1
 end
def uptoSmall : (H : Type) → List (DataW H) → Bool := fun _ ds => decide (uptoBulkAll ds ≤ 1048576)
def OpenSpec.upto (s : _root_.Go.ChangeSpec) : _root_.Go.OpenSpec := { _root_.Go.OpenSpec.ofChange s with cond := some uptoSmall }

/-- 'laws.FnExactLabelsCmp', WHERE WHAT IT READS IS OF BULK AT MOST 1048576: true; the input reads as it did. -/
def fnExactLabelsCmpUptoRow : OpenClaim := { program := "ytipbllegjcedgaa", sum := "5f0ee018d47938b958229c7835b5586e5833fcb07673d0269f4c821a73bbc3ff", func := "loop.example/almanack/laws.FnExactLabelsCmp", spec := "fnExactLabelsCmp", unfollowed := true, recurses := true, apart := false, narrowed := true }
def FnExactLabelsCmpUptoSaid : Prop := fnExactLabelsCmpUptoRow.holds Try.pinned (OpenSpec.upto fnExactLabelsCmpSpec)

/-- 'laws.FnExactLabelsPut', WHERE WHAT IT READS IS OF BULK AT MOST 1048576: true; the input reads as it did. -/
def fnExactLabelsPutUptoRow : OpenClaim := { program := "ytipbllegjcedgaa", sum := "5f0ee018d47938b958229c7835b5586e5833fcb07673d0269f4c821a73bbc3ff", func := "loop.example/almanack/laws.FnExactLabelsPut", spec := "fnExactLabelsPut", inPlace := ["internal/abi.NoEscape", "internal/bytealg.MakeNoZero"], apart := false, narrowed := true }
def FnExactLabelsPutUptoSaid : Prop := fnExactLabelsPutUptoRow.holds Try.pinned (OpenSpec.upto fnExactLabelsPutSpec)

/-- 'laws.FnLabelsCmp', WHERE WHAT IT READS IS OF BULK AT MOST 1048576: true; the input reads as it did. -/
def fnLabelsCmpUptoRow : OpenClaim := { program := "ytipbllegjcedgaa", sum := "5f0ee018d47938b958229c7835b5586e5833fcb07673d0269f4c821a73bbc3ff", func := "loop.example/almanack/laws.FnLabelsCmp", spec := "fnLabelsCmp", unfollowed := true, recurses := true, apart := false, narrowed := true }
def FnLabelsCmpUptoSaid : Prop := fnLabelsCmpUptoRow.holds Try.pinned (OpenSpec.upto fnLabelsCmpSpec)

/-- 'laws.FnExactMatchesPut', WHERE WHAT IT READS IS OF BULK AT MOST 1048576: true; the input reads as it did. -/
def fnExactMatchesPutUptoRow : OpenClaim := { program := "ytipbllegjcedgaa", sum := "5f0ee018d47938b958229c7835b5586e5833fcb07673d0269f4c821a73bbc3ff", func := "loop.example/almanack/laws.FnExactMatchesPut", spec := "fnExactMatchesPut", inPlace := ["internal/abi.NoEscape", "internal/bytealg.MakeNoZero"], unfollowed := true, recurses := true, apart := false, narrowed := true }
def FnExactMatchesPutUptoSaid : Prop := fnExactMatchesPutUptoRow.holds Try.pinned (OpenSpec.upto fnExactMatchesPutSpec)

/-- 'laws.FnMatchesLet', WHERE WHAT IT READS IS OF BULK AT MOST 1048576: true; the input reads as it did. -/
def fnMatchesLetUptoRow : OpenClaim := { program := "ytipbllegjcedgaa", sum := "5f0ee018d47938b958229c7835b5586e5833fcb07673d0269f4c821a73bbc3ff", func := "loop.example/almanack/laws.FnMatchesLet", spec := "fnMatchesLet", unfollowed := true, recurses := true, apart := false, narrowed := true }
def FnMatchesLetUptoSaid : Prop := fnMatchesLetUptoRow.holds Try.pinned (OpenSpec.upto fnMatchesLetSpec)

/-- 'laws.FnMatchesSome', WHERE WHAT IT READS IS OF BULK AT MOST 1048576: true; the input reads as it did. -/
def fnMatchesSomeUptoRow : OpenClaim := { program := "ytipbllegjcedgaa", sum := "5f0ee018d47938b958229c7835b5586e5833fcb07673d0269f4c821a73bbc3ff", func := "loop.example/almanack/laws.FnMatchesSome", spec := "fnMatchesSome", unfollowed := true, recurses := true, apart := false, narrowed := true }
def FnMatchesSomeUptoSaid : Prop := fnMatchesSomeUptoRow.holds Try.pinned (OpenSpec.upto fnMatchesSomeSpec)

/-- 'laws.FnExactMatchesLet', WHERE WHAT IT READS IS OF BULK AT MOST 1048576: true; the input reads as it did. -/
def fnExactMatchesLetUptoRow : OpenClaim := { program := "ytipbllegjcedgaa", sum := "5f0ee018d47938b958229c7835b5586e5833fcb07673d0269f4c821a73bbc3ff", func := "loop.example/almanack/laws.FnExactMatchesLet", spec := "fnExactMatchesLet", unfollowed := true, recurses := true, apart := false, narrowed := true }
def FnExactMatchesLetUptoSaid : Prop := fnExactMatchesLetUptoRow.holds Try.pinned (OpenSpec.upto fnExactMatchesLetSpec)

/-- 'laws.FnExactRowsOk', WHERE WHAT IT READS IS OF BULK AT MOST 1048576: true; the input reads as it did. -/
def fnExactRowsOkUptoRow : OpenClaim := { program := "ytipbllegjcedgaa", sum := "5f0ee018d47938b958229c7835b5586e5833fcb07673d0269f4c821a73bbc3ff", func := "loop.example/almanack/laws.FnExactRowsOk", spec := "fnExactRowsOk", unfollowed := true, recurses := true, apart := false, narrowed := true }
def FnExactRowsOkUptoSaid : Prop := fnExactRowsOkUptoRow.holds Try.pinned (OpenSpec.upto fnExactRowsOkSpec)

end Rows
end Go.Proofs.Ytipbllegjcedgaa
