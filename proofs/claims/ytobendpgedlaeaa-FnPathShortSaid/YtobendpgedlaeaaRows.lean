/-
  No cell of these rows narrows 'for every input' (looked for: loops, veiled, ifaces, maps, wideKeys, modest, calm, conditions, laid).
  DERIVED. THE GIVEN ROWS OF THIS SEAT. 19 by the template 'for every input the law returns true; each argument reads behind the call as it read before'; 0 by the template 'total and deterministic' (their statements: YtobendpgedlaeaaTotals.lean).
  GIVEN WITH THE SEED: the statements are not yours to turn. If you find one false, say at which input.
  Laid BY PROGRAM, IN A SANDBOX (cutbox-rows.mjs): the forced cells as the released guide's own fill.sh prints them over the translation 56eb35806caf8968… (all of the seat's roots in one cut). By AI agents, Wed Nov 11 2026. No macro, syntax, notation, axiom, sorry.
-/
import Derived.Test.YtobendpgedlaeaaChecked
import GoSem.Claim
import GoSem.ClaimJoined
import GoSem.ClaimMapViews
import Derived.JoinedTies
import Derived.KernelRfl
namespace Go.Proofs.Ytobendpgedlaeaa
/- THE CELL 'sum', in the pinned program and in every row, IS THE sha256 OF THE DUMP (.gsa) THAT YtobendpgedlaeaaProg.lean LOADS. Nothing in Lean hashes anything: it is a label: what it is worth is what the hold of that sum in a sandbox is worth. -/
noncomputable def Try.pinned : Pinned := { name := "ytobendpgedlaeaa", sum := "56eb35806caf8968c4606283059041bb3c3a52e1c1634d09755737b79129c55f", checked := Try.checked }
namespace Rows
def none {H : Type} : Left H := { results := [], args := [] }

/-- 'laws.FnDirectoryPart': WHATEVER THE INPUT: true; the input reads as it did. -/
def fnDirectoryPartSpec : ChangeSpec := { name := "fnDirectoryPart", fn := fun _ => fun
  | [d1, d2] => { results := [.lit (.bool true)], args := [d1, d2] }
  | _ => none }
def fnDirectoryPartRow : OpenClaim := { program := "ytobendpgedlaeaa", sum := "56eb35806caf8968c4606283059041bb3c3a52e1c1634d09755737b79129c55f", func := "loop.example/mixrelay/laws.FnDirectoryPart", spec := "fnDirectoryPart", apart := false }
def FnDirectoryPartSaid : Prop := fnDirectoryPartRow.holds Try.pinned (OpenSpec.ofChange fnDirectoryPartSpec)

/-- ITS FALSE NEIGHBOUR: 'it returns false'. Refute it at one input. -/
def fnDirectoryPartWrong : ChangeSpec := { name := "fnDirectoryPart", fn := fun _ => fun
  | [d1, d2] => { results := [.lit (.bool false)], args := [d1, d2] }
  | _ => none }
def FnDirectoryPartWrongFalsely : Prop := fnDirectoryPartRow.holds Try.pinned (OpenSpec.ofChange fnDirectoryPartWrong)

/-- 'laws.FnExactDirectoryValid': WHATEVER THE INPUT: true; the input reads as it did. -/
def fnExactDirectoryValidSpec : ChangeSpec := { name := "fnExactDirectoryValid", fn := fun _ => fun
  | [d] => { results := [.lit (.bool true)], args := [d] }
  | _ => none }
def fnExactDirectoryValidRow : OpenClaim := { program := "ytobendpgedlaeaa", sum := "56eb35806caf8968c4606283059041bb3c3a52e1c1634d09755737b79129c55f", func := "loop.example/mixrelay/laws.FnExactDirectoryValid", spec := "fnExactDirectoryValid", apart := false }
def FnExactDirectoryValidSaid : Prop := fnExactDirectoryValidRow.holds Try.pinned (OpenSpec.ofChange fnExactDirectoryValidSpec)

/-- ITS FALSE NEIGHBOUR: 'it returns false'. Refute it at one input. -/
def fnExactDirectoryValidWrong : ChangeSpec := { name := "fnExactDirectoryValid", fn := fun _ => fun
  | [d] => { results := [.lit (.bool false)], args := [d] }
  | _ => none }
def FnExactDirectoryValidWrongFalsely : Prop := fnExactDirectoryValidRow.holds Try.pinned (OpenSpec.ofChange fnExactDirectoryValidWrong)

/-- 'laws.FnDirectoryDigest': WHATEVER THE INPUT: true; the input reads as it did. -/
def fnDirectoryDigestSpec : ChangeSpec := { name := "fnDirectoryDigest", fn := fun _ => fun
  | [d1, d2] => { results := [.lit (.bool true)], args := [d1, d2] }
  | _ => none }
def fnDirectoryDigestRow : OpenClaim := { program := "ytobendpgedlaeaa", sum := "56eb35806caf8968c4606283059041bb3c3a52e1c1634d09755737b79129c55f", func := "loop.example/mixrelay/laws.FnDirectoryDigest", spec := "fnDirectoryDigest", apart := false }
def FnDirectoryDigestSaid : Prop := fnDirectoryDigestRow.holds Try.pinned (OpenSpec.ofChange fnDirectoryDigestSpec)

/-- ITS FALSE NEIGHBOUR: 'it returns false'. Refute it at one input. -/
def fnDirectoryDigestWrong : ChangeSpec := { name := "fnDirectoryDigest", fn := fun _ => fun
  | [d1, d2] => { results := [.lit (.bool false)], args := [d1, d2] }
  | _ => none }
def FnDirectoryDigestWrongFalsely : Prop := fnDirectoryDigestRow.holds Try.pinned (OpenSpec.ofChange fnDirectoryDigestWrong)

/-- 'laws.FnDirectoryEpoch': WHATEVER THE INPUT: true; the input reads as it did. -/
def fnDirectoryEpochSpec : ChangeSpec := { name := "fnDirectoryEpoch", fn := fun _ => fun
  | [d1, d2] => { results := [.lit (.bool true)], args := [d1, d2] }
  | _ => none }
def fnDirectoryEpochRow : OpenClaim := { program := "ytobendpgedlaeaa", sum := "56eb35806caf8968c4606283059041bb3c3a52e1c1634d09755737b79129c55f", func := "loop.example/mixrelay/laws.FnDirectoryEpoch", spec := "fnDirectoryEpoch", apart := false }
def FnDirectoryEpochSaid : Prop := fnDirectoryEpochRow.holds Try.pinned (OpenSpec.ofChange fnDirectoryEpochSpec)

/-- ITS FALSE NEIGHBOUR: 'it returns false'. Refute it at one input. -/
def fnDirectoryEpochWrong : ChangeSpec := { name := "fnDirectoryEpoch", fn := fun _ => fun
  | [d1, d2] => { results := [.lit (.bool false)], args := [d1, d2] }
  | _ => none }
def FnDirectoryEpochWrongFalsely : Prop := fnDirectoryEpochRow.holds Try.pinned (OpenSpec.ofChange fnDirectoryEpochWrong)

/-- 'laws.FnExactDirectoryDigest': WHATEVER THE INPUT: true; the input reads as it did. -/
def fnExactDirectoryDigestSpec : ChangeSpec := { name := "fnExactDirectoryDigest", fn := fun _ => fun
  | [d] => { results := [.lit (.bool true)], args := [d] }
  | _ => none }
def fnExactDirectoryDigestRow : OpenClaim := { program := "ytobendpgedlaeaa", sum := "56eb35806caf8968c4606283059041bb3c3a52e1c1634d09755737b79129c55f", func := "loop.example/mixrelay/laws.FnExactDirectoryDigest", spec := "fnExactDirectoryDigest", apart := false }
def FnExactDirectoryDigestSaid : Prop := fnExactDirectoryDigestRow.holds Try.pinned (OpenSpec.ofChange fnExactDirectoryDigestSpec)

/-- ITS FALSE NEIGHBOUR: 'it returns false'. Refute it at one input. -/
def fnExactDirectoryDigestWrong : ChangeSpec := { name := "fnExactDirectoryDigest", fn := fun _ => fun
  | [d] => { results := [.lit (.bool false)], args := [d] }
  | _ => none }
def FnExactDirectoryDigestWrongFalsely : Prop := fnExactDirectoryDigestRow.holds Try.pinned (OpenSpec.ofChange fnExactDirectoryDigestWrong)

/-- 'laws.FnPickOrder': WHATEVER THE INPUT: true; the input reads as it did. -/
def fnPickOrderSpec : ChangeSpec := { name := "fnPickOrder", fn := fun _ => fun
  | [d] => { results := [.lit (.bool true)], args := [d] }
  | _ => none }
def fnPickOrderRow : OpenClaim := { program := "ytobendpgedlaeaa", sum := "56eb35806caf8968c4606283059041bb3c3a52e1c1634d09755737b79129c55f", func := "loop.example/mixrelay/laws.FnPickOrder", spec := "fnPickOrder", apart := false }
def FnPickOrderSaid : Prop := fnPickOrderRow.holds Try.pinned (OpenSpec.ofChange fnPickOrderSpec)

/-- ITS FALSE NEIGHBOUR: 'it returns false'. Refute it at one input. -/
def fnPickOrderWrong : ChangeSpec := { name := "fnPickOrder", fn := fun _ => fun
  | [d] => { results := [.lit (.bool false)], args := [d] }
  | _ => none }
def FnPickOrderWrongFalsely : Prop := fnPickOrderRow.holds Try.pinned (OpenSpec.ofChange fnPickOrderWrong)

/-- 'laws.FnPickSame': WHATEVER THE INPUT: true; the input reads as it did. -/
def fnPickSameSpec : ChangeSpec := { name := "fnPickSame", fn := fun _ => fun
  | [d1, d2] => { results := [.lit (.bool true)], args := [d1, d2] }
  | _ => none }
def fnPickSameRow : OpenClaim := { program := "ytobendpgedlaeaa", sum := "56eb35806caf8968c4606283059041bb3c3a52e1c1634d09755737b79129c55f", func := "loop.example/mixrelay/laws.FnPickSame", spec := "fnPickSame", apart := false }
def FnPickSameSaid : Prop := fnPickSameRow.holds Try.pinned (OpenSpec.ofChange fnPickSameSpec)

/-- ITS FALSE NEIGHBOUR: 'it returns false'. Refute it at one input. -/
def fnPickSameWrong : ChangeSpec := { name := "fnPickSame", fn := fun _ => fun
  | [d1, d2] => { results := [.lit (.bool false)], args := [d1, d2] }
  | _ => none }
def FnPickSameWrongFalsely : Prop := fnPickSameRow.holds Try.pinned (OpenSpec.ofChange fnPickSameWrong)

/-- 'laws.FnExactDirectoryPick': WHATEVER THE INPUT: true; the input reads as it did. -/
def fnExactDirectoryPickSpec : ChangeSpec := { name := "fnExactDirectoryPick", fn := fun _ => fun
  | [d1, d2] => { results := [.lit (.bool true)], args := [d1, d2] }
  | _ => none }
def fnExactDirectoryPickRow : OpenClaim := { program := "ytobendpgedlaeaa", sum := "56eb35806caf8968c4606283059041bb3c3a52e1c1634d09755737b79129c55f", func := "loop.example/mixrelay/laws.FnExactDirectoryPick", spec := "fnExactDirectoryPick", apart := false }
def FnExactDirectoryPickSaid : Prop := fnExactDirectoryPickRow.holds Try.pinned (OpenSpec.ofChange fnExactDirectoryPickSpec)

/-- ITS FALSE NEIGHBOUR: 'it returns false'. Refute it at one input. -/
def fnExactDirectoryPickWrong : ChangeSpec := { name := "fnExactDirectoryPick", fn := fun _ => fun
  | [d1, d2] => { results := [.lit (.bool false)], args := [d1, d2] }
  | _ => none }
def FnExactDirectoryPickWrongFalsely : Prop := fnExactDirectoryPickRow.holds Try.pinned (OpenSpec.ofChange fnExactDirectoryPickWrong)

/-- 'laws.FnExactDirectorySign': WHATEVER THE INPUT: true; the input reads as it did. -/
def fnExactDirectorySignSpec : ChangeSpec := { name := "fnExactDirectorySign", fn := fun _ => fun
  | [d1, d2] => { results := [.lit (.bool true)], args := [d1, d2] }
  | _ => none }
def fnExactDirectorySignRow : OpenClaim := { program := "ytobendpgedlaeaa", sum := "56eb35806caf8968c4606283059041bb3c3a52e1c1634d09755737b79129c55f", func := "loop.example/mixrelay/laws.FnExactDirectorySign", spec := "fnExactDirectorySign", apart := false }
def FnExactDirectorySignSaid : Prop := fnExactDirectorySignRow.holds Try.pinned (OpenSpec.ofChange fnExactDirectorySignSpec)

/-- ITS FALSE NEIGHBOUR: 'it returns false'. Refute it at one input. -/
def fnExactDirectorySignWrong : ChangeSpec := { name := "fnExactDirectorySign", fn := fun _ => fun
  | [d1, d2] => { results := [.lit (.bool false)], args := [d1, d2] }
  | _ => none }
def FnExactDirectorySignWrongFalsely : Prop := fnExactDirectorySignRow.holds Try.pinned (OpenSpec.ofChange fnExactDirectorySignWrong)

/-- 'laws.FnSign': WHATEVER THE INPUT: true; the input reads as it did. -/
def fnSignSpec : ChangeSpec := { name := "fnSign", fn := fun _ => fun
  | [d1, d2] => { results := [.lit (.bool true)], args := [d1, d2] }
  | _ => none }
def fnSignRow : OpenClaim := { program := "ytobendpgedlaeaa", sum := "56eb35806caf8968c4606283059041bb3c3a52e1c1634d09755737b79129c55f", func := "loop.example/mixrelay/laws.FnSign", spec := "fnSign", apart := false }
def FnSignSaid : Prop := fnSignRow.holds Try.pinned (OpenSpec.ofChange fnSignSpec)

/-- ITS FALSE NEIGHBOUR: 'it returns false'. Refute it at one input. -/
def fnSignWrong : ChangeSpec := { name := "fnSign", fn := fun _ => fun
  | [d1, d2] => { results := [.lit (.bool false)], args := [d1, d2] }
  | _ => none }
def FnSignWrongFalsely : Prop := fnSignRow.holds Try.pinned (OpenSpec.ofChange fnSignWrong)

/-- 'laws.FnPick': WHATEVER THE INPUT: true; the input reads as it did. -/
def fnPickSpec : ChangeSpec := { name := "fnPick", fn := fun _ => fun
  | [d] => { results := [.lit (.bool true)], args := [d] }
  | _ => none }
def fnPickRow : OpenClaim := { program := "ytobendpgedlaeaa", sum := "56eb35806caf8968c4606283059041bb3c3a52e1c1634d09755737b79129c55f", func := "loop.example/mixrelay/laws.FnPick", spec := "fnPick", apart := false }
def FnPickSaid : Prop := fnPickRow.holds Try.pinned (OpenSpec.ofChange fnPickSpec)

/-- ITS FALSE NEIGHBOUR: 'it returns false'. Refute it at one input. -/
def fnPickWrong : ChangeSpec := { name := "fnPick", fn := fun _ => fun
  | [d] => { results := [.lit (.bool false)], args := [d] }
  | _ => none }
def FnPickWrongFalsely : Prop := fnPickRow.holds Try.pinned (OpenSpec.ofChange fnPickWrong)

/-- 'laws.FnPathNone': WHATEVER THE INPUT: true; the input reads as it did. -/
def fnPathNoneSpec : ChangeSpec := { name := "fnPathNone", fn := fun _ => fun
  | [d] => { results := [.lit (.bool true)], args := [d] }
  | _ => none }
def fnPathNoneRow : OpenClaim := { program := "ytobendpgedlaeaa", sum := "56eb35806caf8968c4606283059041bb3c3a52e1c1634d09755737b79129c55f", func := "loop.example/mixrelay/laws.FnPathNone", spec := "fnPathNone", apart := false }
def FnPathNoneSaid : Prop := fnPathNoneRow.holds Try.pinned (OpenSpec.ofChange fnPathNoneSpec)

/-- ITS FALSE NEIGHBOUR: 'it returns false'. Refute it at one input. -/
def fnPathNoneWrong : ChangeSpec := { name := "fnPathNone", fn := fun _ => fun
  | [d] => { results := [.lit (.bool false)], args := [d] }
  | _ => none }
def FnPathNoneWrongFalsely : Prop := fnPathNoneRow.holds Try.pinned (OpenSpec.ofChange fnPathNoneWrong)

/-- 'laws.FnPathShort': WHATEVER THE INPUT: true; the input reads as it did. -/
def fnPathShortSpec : ChangeSpec := { name := "fnPathShort", fn := fun _ => fun
  | [d1, d2] => { results := [.lit (.bool true)], args := [d1, d2] }
  | _ => none }
def fnPathShortRow : OpenClaim := { program := "ytobendpgedlaeaa", sum := "56eb35806caf8968c4606283059041bb3c3a52e1c1634d09755737b79129c55f", func := "loop.example/mixrelay/laws.FnPathShort", spec := "fnPathShort", apart := false }
def FnPathShortSaid : Prop := fnPathShortRow.holds Try.pinned (OpenSpec.ofChange fnPathShortSpec)

/-- ITS FALSE NEIGHBOUR: 'it returns false'. Refute it at one input. -/
def fnPathShortWrong : ChangeSpec := { name := "fnPathShort", fn := fun _ => fun
  | [d1, d2] => { results := [.lit (.bool false)], args := [d1, d2] }
  | _ => none }
def FnPathShortWrongFalsely : Prop := fnPathShortRow.holds Try.pinned (OpenSpec.ofChange fnPathShortWrong)

/-- 'laws.FnExactDirectoryCheck': WHATEVER THE INPUT: true; the input reads as it did. -/
def fnExactDirectoryCheckSpec : ChangeSpec := { name := "fnExactDirectoryCheck", fn := fun _ => fun
  | [d1, d2, d3] => { results := [.lit (.bool true)], args := [d1, d2, d3] }
  | _ => none }
def fnExactDirectoryCheckRow : OpenClaim := { program := "ytobendpgedlaeaa", sum := "56eb35806caf8968c4606283059041bb3c3a52e1c1634d09755737b79129c55f", func := "loop.example/mixrelay/laws.FnExactDirectoryCheck", spec := "fnExactDirectoryCheck", apart := false }
def FnExactDirectoryCheckSaid : Prop := fnExactDirectoryCheckRow.holds Try.pinned (OpenSpec.ofChange fnExactDirectoryCheckSpec)

/-- ITS FALSE NEIGHBOUR: 'it returns false'. Refute it at one input. -/
def fnExactDirectoryCheckWrong : ChangeSpec := { name := "fnExactDirectoryCheck", fn := fun _ => fun
  | [d1, d2, d3] => { results := [.lit (.bool false)], args := [d1, d2, d3] }
  | _ => none }
def FnExactDirectoryCheckWrongFalsely : Prop := fnExactDirectoryCheckRow.holds Try.pinned (OpenSpec.ofChange fnExactDirectoryCheckWrong)

/-- 'laws.FnSignMore': WHATEVER THE INPUT: true; the input reads as it did. -/
def fnSignMoreSpec : ChangeSpec := { name := "fnSignMore", fn := fun _ => fun
  | [d1, d2] => { results := [.lit (.bool true)], args := [d1, d2] }
  | _ => none }
def fnSignMoreRow : OpenClaim := { program := "ytobendpgedlaeaa", sum := "56eb35806caf8968c4606283059041bb3c3a52e1c1634d09755737b79129c55f", func := "loop.example/mixrelay/laws.FnSignMore", spec := "fnSignMore", apart := false }
def FnSignMoreSaid : Prop := fnSignMoreRow.holds Try.pinned (OpenSpec.ofChange fnSignMoreSpec)

/-- ITS FALSE NEIGHBOUR: 'it returns false'. Refute it at one input. -/
def fnSignMoreWrong : ChangeSpec := { name := "fnSignMore", fn := fun _ => fun
  | [d1, d2] => { results := [.lit (.bool false)], args := [d1, d2] }
  | _ => none }
def FnSignMoreWrongFalsely : Prop := fnSignMoreRow.holds Try.pinned (OpenSpec.ofChange fnSignMoreWrong)

/-- 'laws.FnSignOther': WHATEVER THE INPUT: true; the input reads as it did. -/
def fnSignOtherSpec : ChangeSpec := { name := "fnSignOther", fn := fun _ => fun
  | [d1, d2] => { results := [.lit (.bool true)], args := [d1, d2] }
  | _ => none }
def fnSignOtherRow : OpenClaim := { program := "ytobendpgedlaeaa", sum := "56eb35806caf8968c4606283059041bb3c3a52e1c1634d09755737b79129c55f", func := "loop.example/mixrelay/laws.FnSignOther", spec := "fnSignOther", apart := false }
def FnSignOtherSaid : Prop := fnSignOtherRow.holds Try.pinned (OpenSpec.ofChange fnSignOtherSpec)

/-- ITS FALSE NEIGHBOUR: 'it returns false'. Refute it at one input. -/
def fnSignOtherWrong : ChangeSpec := { name := "fnSignOther", fn := fun _ => fun
  | [d1, d2] => { results := [.lit (.bool false)], args := [d1, d2] }
  | _ => none }
def FnSignOtherWrongFalsely : Prop := fnSignOtherRow.holds Try.pinned (OpenSpec.ofChange fnSignOtherWrong)

/-- 'laws.FnPathFirst': WHATEVER THE INPUT: true; the input reads as it did. -/
def fnPathFirstSpec : ChangeSpec := { name := "fnPathFirst", fn := fun _ => fun
  | [d] => { results := [.lit (.bool true)], args := [d] }
  | _ => none }
def fnPathFirstRow : OpenClaim := { program := "ytobendpgedlaeaa", sum := "56eb35806caf8968c4606283059041bb3c3a52e1c1634d09755737b79129c55f", func := "loop.example/mixrelay/laws.FnPathFirst", spec := "fnPathFirst", apart := false }
def FnPathFirstSaid : Prop := fnPathFirstRow.holds Try.pinned (OpenSpec.ofChange fnPathFirstSpec)

/-- ITS FALSE NEIGHBOUR: 'it returns false'. Refute it at one input. -/
def fnPathFirstWrong : ChangeSpec := { name := "fnPathFirst", fn := fun _ => fun
  | [d] => { results := [.lit (.bool false)], args := [d] }
  | _ => none }
def FnPathFirstWrongFalsely : Prop := fnPathFirstRow.holds Try.pinned (OpenSpec.ofChange fnPathFirstWrong)

/-- 'laws.FnPath': WHATEVER THE INPUT: true; the input reads as it did. -/
def fnPathSpec : ChangeSpec := { name := "fnPath", fn := fun _ => fun
  | [d] => { results := [.lit (.bool true)], args := [d] }
  | _ => none }
def fnPathRow : OpenClaim := { program := "ytobendpgedlaeaa", sum := "56eb35806caf8968c4606283059041bb3c3a52e1c1634d09755737b79129c55f", func := "loop.example/mixrelay/laws.FnPath", spec := "fnPath", apart := false }
def FnPathSaid : Prop := fnPathRow.holds Try.pinned (OpenSpec.ofChange fnPathSpec)

/-- ITS FALSE NEIGHBOUR: 'it returns false'. Refute it at one input. -/
def fnPathWrong : ChangeSpec := { name := "fnPath", fn := fun _ => fun
  | [d] => { results := [.lit (.bool false)], args := [d] }
  | _ => none }
def FnPathWrongFalsely : Prop := fnPathRow.holds Try.pinned (OpenSpec.ofChange fnPathWrong)

/-- 'laws.FnExactDirectoryPath': WHATEVER THE INPUT: true; the input reads as it did. -/
def fnExactDirectoryPathSpec : ChangeSpec := { name := "fnExactDirectoryPath", fn := fun _ => fun
  | [d1, d2, d3] => { results := [.lit (.bool true)], args := [d1, d2, d3] }
  | _ => none }
def fnExactDirectoryPathRow : OpenClaim := { program := "ytobendpgedlaeaa", sum := "56eb35806caf8968c4606283059041bb3c3a52e1c1634d09755737b79129c55f", func := "loop.example/mixrelay/laws.FnExactDirectoryPath", spec := "fnExactDirectoryPath", apart := false }
def FnExactDirectoryPathSaid : Prop := fnExactDirectoryPathRow.holds Try.pinned (OpenSpec.ofChange fnExactDirectoryPathSpec)

/-- ITS FALSE NEIGHBOUR: 'it returns false'. Refute it at one input. -/
def fnExactDirectoryPathWrong : ChangeSpec := { name := "fnExactDirectoryPath", fn := fun _ => fun
  | [d1, d2, d3] => { results := [.lit (.bool false)], args := [d1, d2, d3] }
  | _ => none }
def FnExactDirectoryPathWrongFalsely : Prop := fnExactDirectoryPathRow.holds Try.pinned (OpenSpec.ofChange fnExactDirectoryPathWrong)

/- THE SECOND FORM. 'bulk': how many values and letters a reading holds, each counted each time it is reached (what is shared counts as often as it is met; a slice's spare places count too). A statement '..UptoSaid' is the law's where the arguments, and the package variables that the reading takes, are together of bulk at most 1048576: NARROWER than '..Said'. Prove '..Said' where nothing that the law and all that it calls make is longer than what came in: it says more and counts as full. Else prove '..UptoSaid'. A law counts once. -/
mutual
def uptoBulk {H : Type} : DataW H → Nat
  | .lit (.string bytes) => bytes.length + 1
  | .lit _ => 1
  | .nil => 1
  | .ptr d => uptoBulk d + 1
  | .slice elems spare => uptoBulkAll elems + uptoBulkAll spare + 1
  | .agg parts => uptoBulkAll parts + 1
  | .iface _ d => uptoBulk d + 1
  | .map entries => uptoBulkEntries entries + 1
  | .held _ => 1
def uptoBulkAll {H : Type} : List (DataW H) → Nat
  | [] => 0
  | d :: r => uptoBulk d + uptoBulkAll r
def uptoBulkEntries {H : Type} : List (Lit × DataW H) → Nat
  | [] => 0
  | x :: r => uptoBulkEntry x + uptoBulkEntries r
def uptoBulkEntry {H : Type} : Lit × DataW H → Nat
  | (.string bytes, d) => bytes.length + uptoBulk d + 1
  | (_, d) => uptoBulk d + 1
 end
def uptoSmall : (H : Type) → List (DataW H) → Bool := fun _ ds => decide (uptoBulkAll ds ≤ 1048576)
def OpenSpec.upto (s : _root_.Go.ChangeSpec) : _root_.Go.OpenSpec := { _root_.Go.OpenSpec.ofChange s with cond := some uptoSmall }

/-- 'laws.FnDirectoryPart', WHERE WHAT IT READS IS OF BULK AT MOST 1048576: true; the input reads as it did. -/
def fnDirectoryPartUptoRow : OpenClaim := { program := "ytobendpgedlaeaa", sum := "56eb35806caf8968c4606283059041bb3c3a52e1c1634d09755737b79129c55f", func := "loop.example/mixrelay/laws.FnDirectoryPart", spec := "fnDirectoryPart", apart := false, narrowed := true }
def FnDirectoryPartUptoSaid : Prop := fnDirectoryPartUptoRow.holds Try.pinned (OpenSpec.upto fnDirectoryPartSpec)

/-- 'laws.FnExactDirectoryValid', WHERE WHAT IT READS IS OF BULK AT MOST 1048576: true; the input reads as it did. -/
def fnExactDirectoryValidUptoRow : OpenClaim := { program := "ytobendpgedlaeaa", sum := "56eb35806caf8968c4606283059041bb3c3a52e1c1634d09755737b79129c55f", func := "loop.example/mixrelay/laws.FnExactDirectoryValid", spec := "fnExactDirectoryValid", apart := false, narrowed := true }
def FnExactDirectoryValidUptoSaid : Prop := fnExactDirectoryValidUptoRow.holds Try.pinned (OpenSpec.upto fnExactDirectoryValidSpec)

/-- 'laws.FnDirectoryDigest', WHERE WHAT IT READS IS OF BULK AT MOST 1048576: true; the input reads as it did. -/
def fnDirectoryDigestUptoRow : OpenClaim := { program := "ytobendpgedlaeaa", sum := "56eb35806caf8968c4606283059041bb3c3a52e1c1634d09755737b79129c55f", func := "loop.example/mixrelay/laws.FnDirectoryDigest", spec := "fnDirectoryDigest", apart := false, narrowed := true }
def FnDirectoryDigestUptoSaid : Prop := fnDirectoryDigestUptoRow.holds Try.pinned (OpenSpec.upto fnDirectoryDigestSpec)

/-- 'laws.FnDirectoryEpoch', WHERE WHAT IT READS IS OF BULK AT MOST 1048576: true; the input reads as it did. -/
def fnDirectoryEpochUptoRow : OpenClaim := { program := "ytobendpgedlaeaa", sum := "56eb35806caf8968c4606283059041bb3c3a52e1c1634d09755737b79129c55f", func := "loop.example/mixrelay/laws.FnDirectoryEpoch", spec := "fnDirectoryEpoch", apart := false, narrowed := true }
def FnDirectoryEpochUptoSaid : Prop := fnDirectoryEpochUptoRow.holds Try.pinned (OpenSpec.upto fnDirectoryEpochSpec)

/-- 'laws.FnExactDirectoryDigest', WHERE WHAT IT READS IS OF BULK AT MOST 1048576: true; the input reads as it did. -/
def fnExactDirectoryDigestUptoRow : OpenClaim := { program := "ytobendpgedlaeaa", sum := "56eb35806caf8968c4606283059041bb3c3a52e1c1634d09755737b79129c55f", func := "loop.example/mixrelay/laws.FnExactDirectoryDigest", spec := "fnExactDirectoryDigest", apart := false, narrowed := true }
def FnExactDirectoryDigestUptoSaid : Prop := fnExactDirectoryDigestUptoRow.holds Try.pinned (OpenSpec.upto fnExactDirectoryDigestSpec)

/-- 'laws.FnPickOrder', WHERE WHAT IT READS IS OF BULK AT MOST 1048576: true; the input reads as it did. -/
def fnPickOrderUptoRow : OpenClaim := { program := "ytobendpgedlaeaa", sum := "56eb35806caf8968c4606283059041bb3c3a52e1c1634d09755737b79129c55f", func := "loop.example/mixrelay/laws.FnPickOrder", spec := "fnPickOrder", apart := false, narrowed := true }
def FnPickOrderUptoSaid : Prop := fnPickOrderUptoRow.holds Try.pinned (OpenSpec.upto fnPickOrderSpec)

/-- 'laws.FnPickSame', WHERE WHAT IT READS IS OF BULK AT MOST 1048576: true; the input reads as it did. -/
def fnPickSameUptoRow : OpenClaim := { program := "ytobendpgedlaeaa", sum := "56eb35806caf8968c4606283059041bb3c3a52e1c1634d09755737b79129c55f", func := "loop.example/mixrelay/laws.FnPickSame", spec := "fnPickSame", apart := false, narrowed := true }
def FnPickSameUptoSaid : Prop := fnPickSameUptoRow.holds Try.pinned (OpenSpec.upto fnPickSameSpec)

/-- 'laws.FnExactDirectoryPick', WHERE WHAT IT READS IS OF BULK AT MOST 1048576: true; the input reads as it did. -/
def fnExactDirectoryPickUptoRow : OpenClaim := { program := "ytobendpgedlaeaa", sum := "56eb35806caf8968c4606283059041bb3c3a52e1c1634d09755737b79129c55f", func := "loop.example/mixrelay/laws.FnExactDirectoryPick", spec := "fnExactDirectoryPick", apart := false, narrowed := true }
def FnExactDirectoryPickUptoSaid : Prop := fnExactDirectoryPickUptoRow.holds Try.pinned (OpenSpec.upto fnExactDirectoryPickSpec)

/-- 'laws.FnExactDirectorySign', WHERE WHAT IT READS IS OF BULK AT MOST 1048576: true; the input reads as it did. -/
def fnExactDirectorySignUptoRow : OpenClaim := { program := "ytobendpgedlaeaa", sum := "56eb35806caf8968c4606283059041bb3c3a52e1c1634d09755737b79129c55f", func := "loop.example/mixrelay/laws.FnExactDirectorySign", spec := "fnExactDirectorySign", apart := false, narrowed := true }
def FnExactDirectorySignUptoSaid : Prop := fnExactDirectorySignUptoRow.holds Try.pinned (OpenSpec.upto fnExactDirectorySignSpec)

/-- 'laws.FnSign', WHERE WHAT IT READS IS OF BULK AT MOST 1048576: true; the input reads as it did. -/
def fnSignUptoRow : OpenClaim := { program := "ytobendpgedlaeaa", sum := "56eb35806caf8968c4606283059041bb3c3a52e1c1634d09755737b79129c55f", func := "loop.example/mixrelay/laws.FnSign", spec := "fnSign", apart := false, narrowed := true }
def FnSignUptoSaid : Prop := fnSignUptoRow.holds Try.pinned (OpenSpec.upto fnSignSpec)

/-- 'laws.FnPick', WHERE WHAT IT READS IS OF BULK AT MOST 1048576: true; the input reads as it did. -/
def fnPickUptoRow : OpenClaim := { program := "ytobendpgedlaeaa", sum := "56eb35806caf8968c4606283059041bb3c3a52e1c1634d09755737b79129c55f", func := "loop.example/mixrelay/laws.FnPick", spec := "fnPick", apart := false, narrowed := true }
def FnPickUptoSaid : Prop := fnPickUptoRow.holds Try.pinned (OpenSpec.upto fnPickSpec)

/-- 'laws.FnPathNone', WHERE WHAT IT READS IS OF BULK AT MOST 1048576: true; the input reads as it did. -/
def fnPathNoneUptoRow : OpenClaim := { program := "ytobendpgedlaeaa", sum := "56eb35806caf8968c4606283059041bb3c3a52e1c1634d09755737b79129c55f", func := "loop.example/mixrelay/laws.FnPathNone", spec := "fnPathNone", apart := false, narrowed := true }
def FnPathNoneUptoSaid : Prop := fnPathNoneUptoRow.holds Try.pinned (OpenSpec.upto fnPathNoneSpec)

/-- 'laws.FnPathShort', WHERE WHAT IT READS IS OF BULK AT MOST 1048576: true; the input reads as it did. -/
def fnPathShortUptoRow : OpenClaim := { program := "ytobendpgedlaeaa", sum := "56eb35806caf8968c4606283059041bb3c3a52e1c1634d09755737b79129c55f", func := "loop.example/mixrelay/laws.FnPathShort", spec := "fnPathShort", apart := false, narrowed := true }
def FnPathShortUptoSaid : Prop := fnPathShortUptoRow.holds Try.pinned (OpenSpec.upto fnPathShortSpec)

/-- 'laws.FnExactDirectoryCheck', WHERE WHAT IT READS IS OF BULK AT MOST 1048576: true; the input reads as it did. -/
def fnExactDirectoryCheckUptoRow : OpenClaim := { program := "ytobendpgedlaeaa", sum := "56eb35806caf8968c4606283059041bb3c3a52e1c1634d09755737b79129c55f", func := "loop.example/mixrelay/laws.FnExactDirectoryCheck", spec := "fnExactDirectoryCheck", apart := false, narrowed := true }
def FnExactDirectoryCheckUptoSaid : Prop := fnExactDirectoryCheckUptoRow.holds Try.pinned (OpenSpec.upto fnExactDirectoryCheckSpec)

/-- 'laws.FnSignMore', WHERE WHAT IT READS IS OF BULK AT MOST 1048576: true; the input reads as it did. -/
def fnSignMoreUptoRow : OpenClaim := { program := "ytobendpgedlaeaa", sum := "56eb35806caf8968c4606283059041bb3c3a52e1c1634d09755737b79129c55f", func := "loop.example/mixrelay/laws.FnSignMore", spec := "fnSignMore", apart := false, narrowed := true }
def FnSignMoreUptoSaid : Prop := fnSignMoreUptoRow.holds Try.pinned (OpenSpec.upto fnSignMoreSpec)

/-- 'laws.FnSignOther', WHERE WHAT IT READS IS OF BULK AT MOST 1048576: true; the input reads as it did. -/
def fnSignOtherUptoRow : OpenClaim := { program := "ytobendpgedlaeaa", sum := "56eb35806caf8968c4606283059041bb3c3a52e1c1634d09755737b79129c55f", func := "loop.example/mixrelay/laws.FnSignOther", spec := "fnSignOther", apart := false, narrowed := true }
def FnSignOtherUptoSaid : Prop := fnSignOtherUptoRow.holds Try.pinned (OpenSpec.upto fnSignOtherSpec)

/-- 'laws.FnPathFirst', WHERE WHAT IT READS IS OF BULK AT MOST 1048576: true; the input reads as it did. -/
def fnPathFirstUptoRow : OpenClaim := { program := "ytobendpgedlaeaa", sum := "56eb35806caf8968c4606283059041bb3c3a52e1c1634d09755737b79129c55f", func := "loop.example/mixrelay/laws.FnPathFirst", spec := "fnPathFirst", apart := false, narrowed := true }
def FnPathFirstUptoSaid : Prop := fnPathFirstUptoRow.holds Try.pinned (OpenSpec.upto fnPathFirstSpec)

/-- 'laws.FnPath', WHERE WHAT IT READS IS OF BULK AT MOST 1048576: true; the input reads as it did. -/
def fnPathUptoRow : OpenClaim := { program := "ytobendpgedlaeaa", sum := "56eb35806caf8968c4606283059041bb3c3a52e1c1634d09755737b79129c55f", func := "loop.example/mixrelay/laws.FnPath", spec := "fnPath", apart := false, narrowed := true }
def FnPathUptoSaid : Prop := fnPathUptoRow.holds Try.pinned (OpenSpec.upto fnPathSpec)

/-- 'laws.FnExactDirectoryPath', WHERE WHAT IT READS IS OF BULK AT MOST 1048576: true; the input reads as it did. -/
def fnExactDirectoryPathUptoRow : OpenClaim := { program := "ytobendpgedlaeaa", sum := "56eb35806caf8968c4606283059041bb3c3a52e1c1634d09755737b79129c55f", func := "loop.example/mixrelay/laws.FnExactDirectoryPath", spec := "fnExactDirectoryPath", apart := false, narrowed := true }
def FnExactDirectoryPathUptoSaid : Prop := fnExactDirectoryPathUptoRow.holds Try.pinned (OpenSpec.upto fnExactDirectoryPathSpec)

end Rows
end Go.Proofs.Ytobendpgedlaeaa
