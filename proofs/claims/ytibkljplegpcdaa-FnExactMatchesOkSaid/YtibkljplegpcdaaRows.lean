/-
  No cell of these rows narrows 'for every input' (looked for: loops, veiled, ifaces, maps, wideKeys, modest, calm, conditions, laid).
  DERIVED. THE GIVEN ROWS OF THIS SEAT. 11 by the template 'for every input the law returns true; each argument reads behind the call as it read before'; 0 by the template 'total and deterministic' (their statements: YtibkljplegpcdaaTotals.lean).
  GIVEN WITH THE SEED: the statements are not yours to turn. If you find one false, say at which input.
  Laid BY PROGRAM, IN A SANDBOX (cutbox-rows.mjs): the forced cells as the released guide's own fill.sh prints them over the translation 429ea9cb54807e8d… (all of the seat's roots in one cut). By AI agents, Wed Nov 11 2026. No macro, syntax, notation, axiom, sorry.
-/
import Derived.Test.YtibkljplegpcdaaChecked
import GoSem.Claim
import GoSem.ClaimJoined
import GoSem.ClaimMapViews
import Derived.JoinedTies
import Derived.KernelRfl
namespace Go.Proofs.Ytibkljplegpcdaa
/- THE CELL 'sum', in the pinned program and in every row, IS THE sha256 OF THE DUMP (.gsa) THAT YtibkljplegpcdaaProg.lean LOADS. Nothing in Lean hashes anything: it is a label: what it is worth is what the hold of that sum in a sandbox is worth. -/
noncomputable def Try.pinned : Pinned := { name := "ytibkljplegpcdaa", sum := "429ea9cb54807e8d950c4e1dff54691003c60dede493a2fa84fd8bd20c6004e9", checked := Try.checked }
namespace Rows
def none {H : Type} : Left H := { results := [], args := [] }

/-- 'laws.FnExactListBoth': WHATEVER THE INPUT: true; the input reads as it did. -/
def fnExactListBothSpec : ChangeSpec := { name := "fnExactListBoth", fn := fun _ => fun
  | [d1, d2] => { results := [.lit (.bool true)], args := [d1, d2] }
  | _ => none }
def fnExactListBothRow : OpenClaim := { program := "ytibkljplegpcdaa", sum := "429ea9cb54807e8d950c4e1dff54691003c60dede493a2fa84fd8bd20c6004e9", func := "loop.example/almanack/laws.FnExactListBoth", spec := "fnExactListBoth", unfollowed := true, recurses := true, apart := false }
def FnExactListBothSaid : Prop := fnExactListBothRow.holds Try.pinned (OpenSpec.ofChange fnExactListBothSpec)

/-- ITS FALSE NEIGHBOUR: 'it returns false'. Refute it at one input. -/
def fnExactListBothWrong : ChangeSpec := { name := "fnExactListBoth", fn := fun _ => fun
  | [d1, d2] => { results := [.lit (.bool false)], args := [d1, d2] }
  | _ => none }
def FnExactListBothWrongFalsely : Prop := fnExactListBothRow.holds Try.pinned (OpenSpec.ofChange fnExactListBothWrong)

/-- 'laws.FnExactListEither': WHATEVER THE INPUT: true; the input reads as it did. -/
def fnExactListEitherSpec : ChangeSpec := { name := "fnExactListEither", fn := fun _ => fun
  | [d1, d2] => { results := [.lit (.bool true)], args := [d1, d2] }
  | _ => none }
def fnExactListEitherRow : OpenClaim := { program := "ytibkljplegpcdaa", sum := "429ea9cb54807e8d950c4e1dff54691003c60dede493a2fa84fd8bd20c6004e9", func := "loop.example/almanack/laws.FnExactListEither", spec := "fnExactListEither", unfollowed := true, recurses := true, apart := false }
def FnExactListEitherSaid : Prop := fnExactListEitherRow.holds Try.pinned (OpenSpec.ofChange fnExactListEitherSpec)

/-- ITS FALSE NEIGHBOUR: 'it returns false'. Refute it at one input. -/
def fnExactListEitherWrong : ChangeSpec := { name := "fnExactListEither", fn := fun _ => fun
  | [d1, d2] => { results := [.lit (.bool false)], args := [d1, d2] }
  | _ => none }
def FnExactListEitherWrongFalsely : Prop := fnExactListEitherRow.holds Try.pinned (OpenSpec.ofChange fnExactListEitherWrong)

/-- 'laws.FnExactListLess': WHATEVER THE INPUT: true; the input reads as it did. -/
def fnExactListLessSpec : ChangeSpec := { name := "fnExactListLess", fn := fun _ => fun
  | [d1, d2] => { results := [.lit (.bool true)], args := [d1, d2] }
  | _ => none }
def fnExactListLessRow : OpenClaim := { program := "ytibkljplegpcdaa", sum := "429ea9cb54807e8d950c4e1dff54691003c60dede493a2fa84fd8bd20c6004e9", func := "loop.example/almanack/laws.FnExactListLess", spec := "fnExactListLess", unfollowed := true, recurses := true, apart := false }
def FnExactListLessSaid : Prop := fnExactListLessRow.holds Try.pinned (OpenSpec.ofChange fnExactListLessSpec)

/-- ITS FALSE NEIGHBOUR: 'it returns false'. Refute it at one input. -/
def fnExactListLessWrong : ChangeSpec := { name := "fnExactListLess", fn := fun _ => fun
  | [d1, d2] => { results := [.lit (.bool false)], args := [d1, d2] }
  | _ => none }
def FnExactListLessWrongFalsely : Prop := fnExactListLessRow.holds Try.pinned (OpenSpec.ofChange fnExactListLessWrong)

/-- 'laws.FnListBoth': WHATEVER THE INPUT: true; the input reads as it did. -/
def fnListBothSpec : ChangeSpec := { name := "fnListBoth", fn := fun _ => fun
  | [d] => { results := [.lit (.bool true)], args := [d] }
  | _ => none }
def fnListBothRow : OpenClaim := { program := "ytibkljplegpcdaa", sum := "429ea9cb54807e8d950c4e1dff54691003c60dede493a2fa84fd8bd20c6004e9", func := "loop.example/almanack/laws.FnListBoth", spec := "fnListBoth", unfollowed := true, recurses := true, apart := false }
def FnListBothSaid : Prop := fnListBothRow.holds Try.pinned (OpenSpec.ofChange fnListBothSpec)

/-- ITS FALSE NEIGHBOUR: 'it returns false'. Refute it at one input. -/
def fnListBothWrong : ChangeSpec := { name := "fnListBoth", fn := fun _ => fun
  | [d] => { results := [.lit (.bool false)], args := [d] }
  | _ => none }
def FnListBothWrongFalsely : Prop := fnListBothRow.holds Try.pinned (OpenSpec.ofChange fnListBothWrong)

/-- 'laws.FnListLess': WHATEVER THE INPUT: true; the input reads as it did. -/
def fnListLessSpec : ChangeSpec := { name := "fnListLess", fn := fun _ => fun
  | [d] => { results := [.lit (.bool true)], args := [d] }
  | _ => none }
def fnListLessRow : OpenClaim := { program := "ytibkljplegpcdaa", sum := "429ea9cb54807e8d950c4e1dff54691003c60dede493a2fa84fd8bd20c6004e9", func := "loop.example/almanack/laws.FnListLess", spec := "fnListLess", unfollowed := true, recurses := true, apart := false }
def FnListLessSaid : Prop := fnListLessRow.holds Try.pinned (OpenSpec.ofChange fnListLessSpec)

/-- ITS FALSE NEIGHBOUR: 'it returns false'. Refute it at one input. -/
def fnListLessWrong : ChangeSpec := { name := "fnListLess", fn := fun _ => fun
  | [d] => { results := [.lit (.bool false)], args := [d] }
  | _ => none }
def FnListLessWrongFalsely : Prop := fnListLessRow.holds Try.pinned (OpenSpec.ofChange fnListLessWrong)

/-- 'laws.FnListEither': WHATEVER THE INPUT: true; the input reads as it did. -/
def fnListEitherSpec : ChangeSpec := { name := "fnListEither", fn := fun _ => fun
  | [d] => { results := [.lit (.bool true)], args := [d] }
  | _ => none }
def fnListEitherRow : OpenClaim := { program := "ytibkljplegpcdaa", sum := "429ea9cb54807e8d950c4e1dff54691003c60dede493a2fa84fd8bd20c6004e9", func := "loop.example/almanack/laws.FnListEither", spec := "fnListEither", unfollowed := true, recurses := true, apart := false }
def FnListEitherSaid : Prop := fnListEitherRow.holds Try.pinned (OpenSpec.ofChange fnListEitherSpec)

/-- ITS FALSE NEIGHBOUR: 'it returns false'. Refute it at one input. -/
def fnListEitherWrong : ChangeSpec := { name := "fnListEither", fn := fun _ => fun
  | [d] => { results := [.lit (.bool false)], args := [d] }
  | _ => none }
def FnListEitherWrongFalsely : Prop := fnListEitherRow.holds Try.pinned (OpenSpec.ofChange fnListEitherWrong)

/-- 'laws.FnExactLabelsOk': WHATEVER THE INPUT: true; the input reads as it did. -/
def fnExactLabelsOkSpec : ChangeSpec := { name := "fnExactLabelsOk", fn := fun _ => fun
  | [d] => { results := [.lit (.bool true)], args := [d] }
  | _ => none }
def fnExactLabelsOkRow : OpenClaim := { program := "ytibkljplegpcdaa", sum := "429ea9cb54807e8d950c4e1dff54691003c60dede493a2fa84fd8bd20c6004e9", func := "loop.example/almanack/laws.FnExactLabelsOk", spec := "fnExactLabelsOk", apart := false }
def FnExactLabelsOkSaid : Prop := fnExactLabelsOkRow.holds Try.pinned (OpenSpec.ofChange fnExactLabelsOkSpec)

/-- ITS FALSE NEIGHBOUR: 'it returns false'. Refute it at one input. -/
def fnExactLabelsOkWrong : ChangeSpec := { name := "fnExactLabelsOk", fn := fun _ => fun
  | [d] => { results := [.lit (.bool false)], args := [d] }
  | _ => none }
def FnExactLabelsOkWrongFalsely : Prop := fnExactLabelsOkRow.holds Try.pinned (OpenSpec.ofChange fnExactLabelsOkWrong)

/-- 'laws.FnExactMatchesOk': WHATEVER THE INPUT: true; the input reads as it did. -/
def fnExactMatchesOkSpec : ChangeSpec := { name := "fnExactMatchesOk", fn := fun _ => fun
  | [d] => { results := [.lit (.bool true)], args := [d] }
  | _ => none }
def fnExactMatchesOkRow : OpenClaim := { program := "ytibkljplegpcdaa", sum := "429ea9cb54807e8d950c4e1dff54691003c60dede493a2fa84fd8bd20c6004e9", func := "loop.example/almanack/laws.FnExactMatchesOk", spec := "fnExactMatchesOk", unfollowed := true, recurses := true, apart := false }
def FnExactMatchesOkSaid : Prop := fnExactMatchesOkRow.holds Try.pinned (OpenSpec.ofChange fnExactMatchesOkSpec)

/-- ITS FALSE NEIGHBOUR: 'it returns false'. Refute it at one input. -/
def fnExactMatchesOkWrong : ChangeSpec := { name := "fnExactMatchesOk", fn := fun _ => fun
  | [d] => { results := [.lit (.bool false)], args := [d] }
  | _ => none }
def FnExactMatchesOkWrongFalsely : Prop := fnExactMatchesOkRow.holds Try.pinned (OpenSpec.ofChange fnExactMatchesOkWrong)

/-- 'laws.FnExactDiskOk': WHATEVER THE INPUT: true; the input reads as it did. -/
def fnExactDiskOkSpec : ChangeSpec := { name := "fnExactDiskOk", fn := fun _ => fun
  | [d] => { results := [.lit (.bool true)], args := [d] }
  | _ => none }
def fnExactDiskOkRow : OpenClaim := { program := "ytibkljplegpcdaa", sum := "429ea9cb54807e8d950c4e1dff54691003c60dede493a2fa84fd8bd20c6004e9", func := "loop.example/almanack/laws.FnExactDiskOk", spec := "fnExactDiskOk", apart := false }
def FnExactDiskOkSaid : Prop := fnExactDiskOkRow.holds Try.pinned (OpenSpec.ofChange fnExactDiskOkSpec)

/-- ITS FALSE NEIGHBOUR: 'it returns false'. Refute it at one input. -/
def fnExactDiskOkWrong : ChangeSpec := { name := "fnExactDiskOk", fn := fun _ => fun
  | [d] => { results := [.lit (.bool false)], args := [d] }
  | _ => none }
def FnExactDiskOkWrongFalsely : Prop := fnExactDiskOkRow.holds Try.pinned (OpenSpec.ofChange fnExactDiskOkWrong)

/-- 'laws.FnExactTableNew': WHATEVER THE INPUT: true; the input reads as it did. -/
def fnExactTableNewSpec : ChangeSpec := { name := "fnExactTableNew", fn := fun _ => fun
  | [] => { results := [.lit (.bool true)], args := [] }
  | _ => none }
def fnExactTableNewRow : OpenClaim := { program := "ytibkljplegpcdaa", sum := "429ea9cb54807e8d950c4e1dff54691003c60dede493a2fa84fd8bd20c6004e9", func := "loop.example/almanack/laws.FnExactTableNew", spec := "fnExactTableNew", apart := false }
def FnExactTableNewSaid : Prop := fnExactTableNewRow.holds Try.pinned (OpenSpec.ofChange fnExactTableNewSpec)

/-- ITS FALSE NEIGHBOUR: 'it returns false'. Refute it at one input. -/
def fnExactTableNewWrong : ChangeSpec := { name := "fnExactTableNew", fn := fun _ => fun
  | [] => { results := [.lit (.bool false)], args := [] }
  | _ => none }
def FnExactTableNewWrongFalsely : Prop := fnExactTableNewRow.holds Try.pinned (OpenSpec.ofChange fnExactTableNewWrong)

/-- 'laws.FnExactStoreNew': WHATEVER THE INPUT: true; the input reads as it did. -/
def fnExactStoreNewSpec : ChangeSpec := { name := "fnExactStoreNew", fn := fun _ => fun
  | [] => { results := [.lit (.bool true)], args := [] }
  | _ => none }
def fnExactStoreNewRow : OpenClaim := { program := "ytibkljplegpcdaa", sum := "429ea9cb54807e8d950c4e1dff54691003c60dede493a2fa84fd8bd20c6004e9", func := "loop.example/almanack/laws.FnExactStoreNew", spec := "fnExactStoreNew", apart := false }
def FnExactStoreNewSaid : Prop := fnExactStoreNewRow.holds Try.pinned (OpenSpec.ofChange fnExactStoreNewSpec)

/-- ITS FALSE NEIGHBOUR: 'it returns false'. Refute it at one input. -/
def fnExactStoreNewWrong : ChangeSpec := { name := "fnExactStoreNew", fn := fun _ => fun
  | [] => { results := [.lit (.bool false)], args := [] }
  | _ => none }
def FnExactStoreNewWrongFalsely : Prop := fnExactStoreNewRow.holds Try.pinned (OpenSpec.ofChange fnExactStoreNewWrong)

/- THE SECOND FORM. 'bulk': how many values and letters a reading holds, each counted each time it is reached (what is shared counts as often as it is met; a slice's spare places count too). A statement '..UptoSaid' is the law's where the arguments, and the package variables that the reading takes, are together of bulk at most 1048576: NARROWER than '..Said'. Prove '..Said' where nothing that the law and all that it calls make is longer than what came in: it says more and counts as full. Else prove '..UptoSaid'. A law counts once. -/
mutual
def uptoBulk {H : Type} : DataW H → Nat
  | .lit (.string bytes) => bytes.length + 1
  | .lit _ => 1
  | .nil => 1
  | .ptr d => uptoBulk d + 1
  | .slice elems spare => uptoBulkAll elems + uptoBulkAll spare + 1
  | .agg parts => uptoBulkAll parts + 1
  | .iface _ d => uptoBulk d + 1
  | .map entries => uptoBulkEntries entries + 1
  | .held _ => 1
def uptoBulkAll {H : Type} : List (DataW H) → Nat
  | [] => 0
  | d :: r => uptoBulk d + uptoBulkAll r
def uptoBulkEntries {H : Type} : List (Lit × DataW H) → Nat
  | [] => 0
  | x :: r => uptoBulkEntry x + uptoBulkEntries r
def uptoBulkEntry {H : Type} : Lit × DataW H → Nat
  | (.string bytes, d) => bytes.length + uptoBulk d + 1
  | (_, d) => uptoBulk d + 1
 end
def uptoSmall : (H : Type) → List (DataW H) → Bool := fun _ ds => decide (uptoBulkAll ds ≤ 1048576)
def OpenSpec.upto (s : _root_.Go.ChangeSpec) : _root_.Go.OpenSpec := { _root_.Go.OpenSpec.ofChange s with cond := some uptoSmall }

/-- 'laws.FnExactListBoth', WHERE WHAT IT READS IS OF BULK AT MOST 1048576: true; the input reads as it did. -/
def fnExactListBothUptoRow : OpenClaim := { program := "ytibkljplegpcdaa", sum := "429ea9cb54807e8d950c4e1dff54691003c60dede493a2fa84fd8bd20c6004e9", func := "loop.example/almanack/laws.FnExactListBoth", spec := "fnExactListBoth", unfollowed := true, recurses := true, apart := false, narrowed := true }
def FnExactListBothUptoSaid : Prop := fnExactListBothUptoRow.holds Try.pinned (OpenSpec.upto fnExactListBothSpec)

/-- 'laws.FnExactListEither', WHERE WHAT IT READS IS OF BULK AT MOST 1048576: true; the input reads as it did. -/
def fnExactListEitherUptoRow : OpenClaim := { program := "ytibkljplegpcdaa", sum := "429ea9cb54807e8d950c4e1dff54691003c60dede493a2fa84fd8bd20c6004e9", func := "loop.example/almanack/laws.FnExactListEither", spec := "fnExactListEither", unfollowed := true, recurses := true, apart := false, narrowed := true }
def FnExactListEitherUptoSaid : Prop := fnExactListEitherUptoRow.holds Try.pinned (OpenSpec.upto fnExactListEitherSpec)

/-- 'laws.FnExactListLess', WHERE WHAT IT READS IS OF BULK AT MOST 1048576: true; the input reads as it did. -/
def fnExactListLessUptoRow : OpenClaim := { program := "ytibkljplegpcdaa", sum := "429ea9cb54807e8d950c4e1dff54691003c60dede493a2fa84fd8bd20c6004e9", func := "loop.example/almanack/laws.FnExactListLess", spec := "fnExactListLess", unfollowed := true, recurses := true, apart := false, narrowed := true }
def FnExactListLessUptoSaid : Prop := fnExactListLessUptoRow.holds Try.pinned (OpenSpec.upto fnExactListLessSpec)

/-- 'laws.FnListBoth', WHERE WHAT IT READS IS OF BULK AT MOST 1048576: true; the input reads as it did. -/
def fnListBothUptoRow : OpenClaim := { program := "ytibkljplegpcdaa", sum := "429ea9cb54807e8d950c4e1dff54691003c60dede493a2fa84fd8bd20c6004e9", func := "loop.example/almanack/laws.FnListBoth", spec := "fnListBoth", unfollowed := true, recurses := true, apart := false, narrowed := true }
def FnListBothUptoSaid : Prop := fnListBothUptoRow.holds Try.pinned (OpenSpec.upto fnListBothSpec)

/-- 'laws.FnListLess', WHERE WHAT IT READS IS OF BULK AT MOST 1048576: true; the input reads as it did. -/
def fnListLessUptoRow : OpenClaim := { program := "ytibkljplegpcdaa", sum := "429ea9cb54807e8d950c4e1dff54691003c60dede493a2fa84fd8bd20c6004e9", func := "loop.example/almanack/laws.FnListLess", spec := "fnListLess", unfollowed := true, recurses := true, apart := false, narrowed := true }
def FnListLessUptoSaid : Prop := fnListLessUptoRow.holds Try.pinned (OpenSpec.upto fnListLessSpec)

/-- 'laws.FnListEither', WHERE WHAT IT READS IS OF BULK AT MOST 1048576: true; the input reads as it did. -/
def fnListEitherUptoRow : OpenClaim := { program := "ytibkljplegpcdaa", sum := "429ea9cb54807e8d950c4e1dff54691003c60dede493a2fa84fd8bd20c6004e9", func := "loop.example/almanack/laws.FnListEither", spec := "fnListEither", unfollowed := true, recurses := true, apart := false, narrowed := true }
def FnListEitherUptoSaid : Prop := fnListEitherUptoRow.holds Try.pinned (OpenSpec.upto fnListEitherSpec)

/-- 'laws.FnExactLabelsOk', WHERE WHAT IT READS IS OF BULK AT MOST 1048576: true; the input reads as it did. -/
def fnExactLabelsOkUptoRow : OpenClaim := { program := "ytibkljplegpcdaa", sum := "429ea9cb54807e8d950c4e1dff54691003c60dede493a2fa84fd8bd20c6004e9", func := "loop.example/almanack/laws.FnExactLabelsOk", spec := "fnExactLabelsOk", apart := false, narrowed := true }
def FnExactLabelsOkUptoSaid : Prop := fnExactLabelsOkUptoRow.holds Try.pinned (OpenSpec.upto fnExactLabelsOkSpec)

/-- 'laws.FnExactMatchesOk', WHERE WHAT IT READS IS OF BULK AT MOST 1048576: true; the input reads as it did. -/
def fnExactMatchesOkUptoRow : OpenClaim := { program := "ytibkljplegpcdaa", sum := "429ea9cb54807e8d950c4e1dff54691003c60dede493a2fa84fd8bd20c6004e9", func := "loop.example/almanack/laws.FnExactMatchesOk", spec := "fnExactMatchesOk", unfollowed := true, recurses := true, apart := false, narrowed := true }
def FnExactMatchesOkUptoSaid : Prop := fnExactMatchesOkUptoRow.holds Try.pinned (OpenSpec.upto fnExactMatchesOkSpec)

/-- 'laws.FnExactDiskOk', WHERE WHAT IT READS IS OF BULK AT MOST 1048576: true; the input reads as it did. -/
def fnExactDiskOkUptoRow : OpenClaim := { program := "ytibkljplegpcdaa", sum := "429ea9cb54807e8d950c4e1dff54691003c60dede493a2fa84fd8bd20c6004e9", func := "loop.example/almanack/laws.FnExactDiskOk", spec := "fnExactDiskOk", apart := false, narrowed := true }
def FnExactDiskOkUptoSaid : Prop := fnExactDiskOkUptoRow.holds Try.pinned (OpenSpec.upto fnExactDiskOkSpec)

/-- 'laws.FnExactTableNew', WHERE WHAT IT READS IS OF BULK AT MOST 1048576: true; the input reads as it did. -/
def fnExactTableNewUptoRow : OpenClaim := { program := "ytibkljplegpcdaa", sum := "429ea9cb54807e8d950c4e1dff54691003c60dede493a2fa84fd8bd20c6004e9", func := "loop.example/almanack/laws.FnExactTableNew", spec := "fnExactTableNew", apart := false, narrowed := true }
def FnExactTableNewUptoSaid : Prop := fnExactTableNewUptoRow.holds Try.pinned (OpenSpec.upto fnExactTableNewSpec)

/-- 'laws.FnExactStoreNew', WHERE WHAT IT READS IS OF BULK AT MOST 1048576: true; the input reads as it did. -/
def fnExactStoreNewUptoRow : OpenClaim := { program := "ytibkljplegpcdaa", sum := "429ea9cb54807e8d950c4e1dff54691003c60dede493a2fa84fd8bd20c6004e9", func := "loop.example/almanack/laws.FnExactStoreNew", spec := "fnExactStoreNew", apart := false, narrowed := true }
def FnExactStoreNewUptoSaid : Prop := fnExactStoreNewUptoRow.holds Try.pinned (OpenSpec.upto fnExactStoreNewSpec)

end Rows
end Go.Proofs.Ytibkljplegpcdaa
