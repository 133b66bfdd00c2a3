/-
  No cell of these rows narrows 'for every input' (looked for: loops, veiled, ifaces, maps, wideKeys, modest, calm, conditions, laid).
  DERIVED. THE GIVEN ROWS OF THIS SEAT. 15 by the template 'for every input the law returns true; each argument reads behind the call as it read before'; 0 by the template 'total and deterministic' (their statements: YthmgfgiaagkdeaaTotals.lean).
  GIVEN WITH THE SEED: the statements are not yours to turn. If you find one false, say at which input.
  Laid BY PROGRAM, IN A SANDBOX (cutbox-rows.mjs): the forced cells as the released guide's own fill.sh prints them over the translation 591362977fe65861… (all of the seat's roots in one cut). By AI agents, Wed Nov 11 2026. No macro, syntax, notation, axiom, sorry.
-/
import Derived.Test.YthmgfgiaagkdeaaChecked
import GoSem.Claim
import GoSem.ClaimJoined
import GoSem.ClaimMapViews
import Derived.JoinedTies
import Derived.KernelRfl
namespace Go.Proofs.Ythmgfgiaagkdeaa
/- THE CELL 'sum', in the pinned program and in every row, IS THE sha256 OF THE DUMP (.gsa) THAT YthmgfgiaagkdeaaProg.lean LOADS. Nothing in Lean hashes anything: it is a label: what it is worth is what the hold of that sum in a sandbox is worth. -/
noncomputable def Try.pinned : Pinned := { name := "ythmgfgiaagkdeaa", sum := "591362977fe658611ff3faf7f8cc06f847d1ebc1444768d0784a95321a6333ec", checked := Try.checked }
namespace Rows
def none {H : Type} : Left H := { results := [], args := [] }

/-- 'laws.FnFlushTwice': WHATEVER THE INPUT: true; the input reads as it did. -/
def fnFlushTwiceSpec : ChangeSpec := { name := "fnFlushTwice", fn := fun _ => fun
  | [d] => { results := [.lit (.bool true)], args := [d] }
  | _ => none }
def fnFlushTwiceRow : OpenClaim := { program := "ythmgfgiaagkdeaa", sum := "591362977fe658611ff3faf7f8cc06f847d1ebc1444768d0784a95321a6333ec", func := "loop.example/mixrelay/laws.FnFlushTwice", spec := "fnFlushTwice", unfollowed := true, recurses := true, apart := false }
def FnFlushTwiceSaid : Prop := fnFlushTwiceRow.holds Try.pinned (OpenSpec.ofChange fnFlushTwiceSpec)

/-- ITS FALSE NEIGHBOUR: 'it returns false'. Refute it at one input. -/
def fnFlushTwiceWrong : ChangeSpec := { name := "fnFlushTwice", fn := fun _ => fun
  | [d] => { results := [.lit (.bool false)], args := [d] }
  | _ => none }
def FnFlushTwiceWrongFalsely : Prop := fnFlushTwiceRow.holds Try.pinned (OpenSpec.ofChange fnFlushTwiceWrong)

/-- 'laws.FnTakeSpace': WHATEVER THE INPUT: true; the input reads as it did. -/
def fnTakeSpaceSpec : ChangeSpec := { name := "fnTakeSpace", fn := fun _ => fun
  | [d] => { results := [.lit (.bool true)], args := [d] }
  | _ => none }
def fnTakeSpaceRow : OpenClaim := { program := "ythmgfgiaagkdeaa", sum := "591362977fe658611ff3faf7f8cc06f847d1ebc1444768d0784a95321a6333ec", func := "loop.example/mixrelay/laws.FnTakeSpace", spec := "fnTakeSpace", unfollowed := true, recurses := true, apart := false }
def FnTakeSpaceSaid : Prop := fnTakeSpaceRow.holds Try.pinned (OpenSpec.ofChange fnTakeSpaceSpec)

/-- ITS FALSE NEIGHBOUR: 'it returns false'. Refute it at one input. -/
def fnTakeSpaceWrong : ChangeSpec := { name := "fnTakeSpace", fn := fun _ => fun
  | [d] => { results := [.lit (.bool false)], args := [d] }
  | _ => none }
def FnTakeSpaceWrongFalsely : Prop := fnTakeSpaceRow.holds Try.pinned (OpenSpec.ofChange fnTakeSpaceWrong)

/-- 'laws.FnTakeTwice': WHATEVER THE INPUT: true; the input reads as it did. -/
def fnTakeTwiceSpec : ChangeSpec := { name := "fnTakeTwice", fn := fun _ => fun
  | [d] => { results := [.lit (.bool true)], args := [d] }
  | _ => none }
def fnTakeTwiceRow : OpenClaim := { program := "ythmgfgiaagkdeaa", sum := "591362977fe658611ff3faf7f8cc06f847d1ebc1444768d0784a95321a6333ec", func := "loop.example/mixrelay/laws.FnTakeTwice", spec := "fnTakeTwice", unfollowed := true, recurses := true, apart := false }
def FnTakeTwiceSaid : Prop := fnTakeTwiceRow.holds Try.pinned (OpenSpec.ofChange fnTakeTwiceSpec)

/-- ITS FALSE NEIGHBOUR: 'it returns false'. Refute it at one input. -/
def fnTakeTwiceWrong : ChangeSpec := { name := "fnTakeTwice", fn := fun _ => fun
  | [d] => { results := [.lit (.bool false)], args := [d] }
  | _ => none }
def FnTakeTwiceWrongFalsely : Prop := fnTakeTwiceRow.holds Try.pinned (OpenSpec.ofChange fnTakeTwiceWrong)

/-- 'laws.FnExactReplyOpen': WHATEVER THE INPUT: true; the input reads as it did. -/
def fnExactReplyOpenSpec : ChangeSpec := { name := "fnExactReplyOpen", fn := fun _ => fun
  | [d1, d2] => { results := [.lit (.bool true)], args := [d1, d2] }
  | _ => none }
def fnExactReplyOpenRow : OpenClaim := { program := "ythmgfgiaagkdeaa", sum := "591362977fe658611ff3faf7f8cc06f847d1ebc1444768d0784a95321a6333ec", func := "loop.example/mixrelay/laws.FnExactReplyOpen", spec := "fnExactReplyOpen", apart := false }
def FnExactReplyOpenSaid : Prop := fnExactReplyOpenRow.holds Try.pinned (OpenSpec.ofChange fnExactReplyOpenSpec)

/-- ITS FALSE NEIGHBOUR: 'it returns false'. Refute it at one input. -/
def fnExactReplyOpenWrong : ChangeSpec := { name := "fnExactReplyOpen", fn := fun _ => fun
  | [d1, d2] => { results := [.lit (.bool false)], args := [d1, d2] }
  | _ => none }
def FnExactReplyOpenWrongFalsely : Prop := fnExactReplyOpenRow.holds Try.pinned (OpenSpec.ofChange fnExactReplyOpenWrong)

/-- 'laws.FnExactReplyFill': WHATEVER THE INPUT: true; the input reads as it did. -/
def fnExactReplyFillSpec : ChangeSpec := { name := "fnExactReplyFill", fn := fun _ => fun
  | [d1, d2] => { results := [.lit (.bool true)], args := [d1, d2] }
  | _ => none }
def fnExactReplyFillRow : OpenClaim := { program := "ythmgfgiaagkdeaa", sum := "591362977fe658611ff3faf7f8cc06f847d1ebc1444768d0784a95321a6333ec", func := "loop.example/mixrelay/laws.FnExactReplyFill", spec := "fnExactReplyFill", apart := false }
def FnExactReplyFillSaid : Prop := fnExactReplyFillRow.holds Try.pinned (OpenSpec.ofChange fnExactReplyFillSpec)

/-- ITS FALSE NEIGHBOUR: 'it returns false'. Refute it at one input. -/
def fnExactReplyFillWrong : ChangeSpec := { name := "fnExactReplyFill", fn := fun _ => fun
  | [d1, d2] => { results := [.lit (.bool false)], args := [d1, d2] }
  | _ => none }
def FnExactReplyFillWrongFalsely : Prop := fnExactReplyFillRow.holds Try.pinned (OpenSpec.ofChange fnExactReplyFillWrong)

/-- 'laws.FnExactMixTake': WHATEVER THE INPUT: true; the input reads as it did. -/
def fnExactMixTakeSpec : ChangeSpec := { name := "fnExactMixTake", fn := fun _ => fun
  | [d1, d2] => { results := [.lit (.bool true)], args := [d1, d2] }
  | _ => none }
def fnExactMixTakeRow : OpenClaim := { program := "ythmgfgiaagkdeaa", sum := "591362977fe658611ff3faf7f8cc06f847d1ebc1444768d0784a95321a6333ec", func := "loop.example/mixrelay/laws.FnExactMixTake", spec := "fnExactMixTake", apart := false }
def FnExactMixTakeSaid : Prop := fnExactMixTakeRow.holds Try.pinned (OpenSpec.ofChange fnExactMixTakeSpec)

/-- ITS FALSE NEIGHBOUR: 'it returns false'. Refute it at one input. -/
def fnExactMixTakeWrong : ChangeSpec := { name := "fnExactMixTake", fn := fun _ => fun
  | [d1, d2] => { results := [.lit (.bool false)], args := [d1, d2] }
  | _ => none }
def FnExactMixTakeWrongFalsely : Prop := fnExactMixTakeRow.holds Try.pinned (OpenSpec.ofChange fnExactMixTakeWrong)

/-- 'laws.FnTake': WHATEVER THE INPUT: true; the input reads as it did. -/
def fnTakeSpec : ChangeSpec := { name := "fnTake", fn := fun _ => fun
  | [d] => { results := [.lit (.bool true)], args := [d] }
  | _ => none }
def fnTakeRow : OpenClaim := { program := "ythmgfgiaagkdeaa", sum := "591362977fe658611ff3faf7f8cc06f847d1ebc1444768d0784a95321a6333ec", func := "loop.example/mixrelay/laws.FnTake", spec := "fnTake", apart := false }
def FnTakeSaid : Prop := fnTakeRow.holds Try.pinned (OpenSpec.ofChange fnTakeSpec)

/-- ITS FALSE NEIGHBOUR: 'it returns false'. Refute it at one input. -/
def fnTakeWrong : ChangeSpec := { name := "fnTake", fn := fun _ => fun
  | [d] => { results := [.lit (.bool false)], args := [d] }
  | _ => none }
def FnTakeWrongFalsely : Prop := fnTakeRow.holds Try.pinned (OpenSpec.ofChange fnTakeWrong)

/-- 'laws.FnTakeBody': WHATEVER THE INPUT: true; the input reads as it did. -/
def fnTakeBodySpec : ChangeSpec := { name := "fnTakeBody", fn := fun _ => fun
  | [d1, d2] => { results := [.lit (.bool true)], args := [d1, d2] }
  | _ => none }
def fnTakeBodyRow : OpenClaim := { program := "ythmgfgiaagkdeaa", sum := "591362977fe658611ff3faf7f8cc06f847d1ebc1444768d0784a95321a6333ec", func := "loop.example/mixrelay/laws.FnTakeBody", spec := "fnTakeBody", apart := false }
def FnTakeBodySaid : Prop := fnTakeBodyRow.holds Try.pinned (OpenSpec.ofChange fnTakeBodySpec)

/-- ITS FALSE NEIGHBOUR: 'it returns false'. Refute it at one input. -/
def fnTakeBodyWrong : ChangeSpec := { name := "fnTakeBody", fn := fun _ => fun
  | [d1, d2] => { results := [.lit (.bool false)], args := [d1, d2] }
  | _ => none }
def FnTakeBodyWrongFalsely : Prop := fnTakeBodyRow.holds Try.pinned (OpenSpec.ofChange fnTakeBodyWrong)

/-- 'laws.FnTakeChanged': WHATEVER THE INPUT: true; the input reads as it did. -/
def fnTakeChangedSpec : ChangeSpec := { name := "fnTakeChanged", fn := fun _ => fun
  | [d1, d2] => { results := [.lit (.bool true)], args := [d1, d2] }
  | _ => none }
def fnTakeChangedRow : OpenClaim := { program := "ythmgfgiaagkdeaa", sum := "591362977fe658611ff3faf7f8cc06f847d1ebc1444768d0784a95321a6333ec", func := "loop.example/mixrelay/laws.FnTakeChanged", spec := "fnTakeChanged", apart := false }
def FnTakeChangedSaid : Prop := fnTakeChangedRow.holds Try.pinned (OpenSpec.ofChange fnTakeChangedSpec)

/-- ITS FALSE NEIGHBOUR: 'it returns false'. Refute it at one input. -/
def fnTakeChangedWrong : ChangeSpec := { name := "fnTakeChanged", fn := fun _ => fun
  | [d1, d2] => { results := [.lit (.bool false)], args := [d1, d2] }
  | _ => none }
def FnTakeChangedWrongFalsely : Prop := fnTakeChangedRow.holds Try.pinned (OpenSpec.ofChange fnTakeChangedWrong)

/-- 'laws.FnTakeCodes': WHATEVER THE INPUT: true; the input reads as it did. -/
def fnTakeCodesSpec : ChangeSpec := { name := "fnTakeCodes", fn := fun _ => fun
  | [d] => { results := [.lit (.bool true)], args := [d] }
  | _ => none }
def fnTakeCodesRow : OpenClaim := { program := "ythmgfgiaagkdeaa", sum := "591362977fe658611ff3faf7f8cc06f847d1ebc1444768d0784a95321a6333ec", func := "loop.example/mixrelay/laws.FnTakeCodes", spec := "fnTakeCodes", apart := false }
def FnTakeCodesSaid : Prop := fnTakeCodesRow.holds Try.pinned (OpenSpec.ofChange fnTakeCodesSpec)

/-- ITS FALSE NEIGHBOUR: 'it returns false'. Refute it at one input. -/
def fnTakeCodesWrong : ChangeSpec := { name := "fnTakeCodes", fn := fun _ => fun
  | [d] => { results := [.lit (.bool false)], args := [d] }
  | _ => none }
def FnTakeCodesWrongFalsely : Prop := fnTakeCodesRow.holds Try.pinned (OpenSpec.ofChange fnTakeCodesWrong)

/-- 'laws.FnExactMixFlush': WHATEVER THE INPUT: true; the input reads as it did. -/
def fnExactMixFlushSpec : ChangeSpec := { name := "fnExactMixFlush", fn := fun _ => fun
  | [d1, d2] => { results := [.lit (.bool true)], args := [d1, d2] }
  | _ => none }
def fnExactMixFlushRow : OpenClaim := { program := "ythmgfgiaagkdeaa", sum := "591362977fe658611ff3faf7f8cc06f847d1ebc1444768d0784a95321a6333ec", func := "loop.example/mixrelay/laws.FnExactMixFlush", spec := "fnExactMixFlush", unfollowed := true, recurses := true, apart := false }
def FnExactMixFlushSaid : Prop := fnExactMixFlushRow.holds Try.pinned (OpenSpec.ofChange fnExactMixFlushSpec)

/-- ITS FALSE NEIGHBOUR: 'it returns false'. Refute it at one input. -/
def fnExactMixFlushWrong : ChangeSpec := { name := "fnExactMixFlush", fn := fun _ => fun
  | [d1, d2] => { results := [.lit (.bool false)], args := [d1, d2] }
  | _ => none }
def FnExactMixFlushWrongFalsely : Prop := fnExactMixFlushRow.holds Try.pinned (OpenSpec.ofChange fnExactMixFlushWrong)

/-- 'laws.FnFlush': WHATEVER THE INPUT: true; the input reads as it did. -/
def fnFlushSpec : ChangeSpec := { name := "fnFlush", fn := fun _ => fun
  | [d] => { results := [.lit (.bool true)], args := [d] }
  | _ => none }
def fnFlushRow : OpenClaim := { program := "ythmgfgiaagkdeaa", sum := "591362977fe658611ff3faf7f8cc06f847d1ebc1444768d0784a95321a6333ec", func := "loop.example/mixrelay/laws.FnFlush", spec := "fnFlush", unfollowed := true, recurses := true, apart := false }
def FnFlushSaid : Prop := fnFlushRow.holds Try.pinned (OpenSpec.ofChange fnFlushSpec)

/-- ITS FALSE NEIGHBOUR: 'it returns false'. Refute it at one input. -/
def fnFlushWrong : ChangeSpec := { name := "fnFlush", fn := fun _ => fun
  | [d] => { results := [.lit (.bool false)], args := [d] }
  | _ => none }
def FnFlushWrongFalsely : Prop := fnFlushRow.holds Try.pinned (OpenSpec.ofChange fnFlushWrong)

/-- 'laws.FnFlushMix': WHATEVER THE INPUT: true; the input reads as it did. -/
def fnFlushMixSpec : ChangeSpec := { name := "fnFlushMix", fn := fun _ => fun
  | [d] => { results := [.lit (.bool true)], args := [d] }
  | _ => none }
def fnFlushMixRow : OpenClaim := { program := "ythmgfgiaagkdeaa", sum := "591362977fe658611ff3faf7f8cc06f847d1ebc1444768d0784a95321a6333ec", func := "loop.example/mixrelay/laws.FnFlushMix", spec := "fnFlushMix", unfollowed := true, recurses := true, apart := false }
def FnFlushMixSaid : Prop := fnFlushMixRow.holds Try.pinned (OpenSpec.ofChange fnFlushMixSpec)

/-- ITS FALSE NEIGHBOUR: 'it returns false'. Refute it at one input. -/
def fnFlushMixWrong : ChangeSpec := { name := "fnFlushMix", fn := fun _ => fun
  | [d] => { results := [.lit (.bool false)], args := [d] }
  | _ => none }
def FnFlushMixWrongFalsely : Prop := fnFlushMixRow.holds Try.pinned (OpenSpec.ofChange fnFlushMixWrong)

/-- 'laws.FnFlushOrder': WHATEVER THE INPUT: true; the input reads as it did. -/
def fnFlushOrderSpec : ChangeSpec := { name := "fnFlushOrder", fn := fun _ => fun
  | [d] => { results := [.lit (.bool true)], args := [d] }
  | _ => none }
def fnFlushOrderRow : OpenClaim := { program := "ythmgfgiaagkdeaa", sum := "591362977fe658611ff3faf7f8cc06f847d1ebc1444768d0784a95321a6333ec", func := "loop.example/mixrelay/laws.FnFlushOrder", spec := "fnFlushOrder", unfollowed := true, recurses := true, apart := false }
def FnFlushOrderSaid : Prop := fnFlushOrderRow.holds Try.pinned (OpenSpec.ofChange fnFlushOrderSpec)

/-- ITS FALSE NEIGHBOUR: 'it returns false'. Refute it at one input. -/
def fnFlushOrderWrong : ChangeSpec := { name := "fnFlushOrder", fn := fun _ => fun
  | [d] => { results := [.lit (.bool false)], args := [d] }
  | _ => none }
def FnFlushOrderWrongFalsely : Prop := fnFlushOrderRow.holds Try.pinned (OpenSpec.ofChange fnFlushOrderWrong)

/-- 'laws.FnFlushSame': WHATEVER THE INPUT: true; the input reads as it did. -/
def fnFlushSameSpec : ChangeSpec := { name := "fnFlushSame", fn := fun _ => fun
  | [d] => { results := [.lit (.bool true)], args := [d] }
  | _ => none }
def fnFlushSameRow : OpenClaim := { program := "ythmgfgiaagkdeaa", sum := "591362977fe658611ff3faf7f8cc06f847d1ebc1444768d0784a95321a6333ec", func := "loop.example/mixrelay/laws.FnFlushSame", spec := "fnFlushSame", unfollowed := true, recurses := true, apart := false }
def FnFlushSameSaid : Prop := fnFlushSameRow.holds Try.pinned (OpenSpec.ofChange fnFlushSameSpec)

/-- ITS FALSE NEIGHBOUR: 'it returns false'. Refute it at one input. -/
def fnFlushSameWrong : ChangeSpec := { name := "fnFlushSame", fn := fun _ => fun
  | [d] => { results := [.lit (.bool false)], args := [d] }
  | _ => none }
def FnFlushSameWrongFalsely : Prop := fnFlushSameRow.holds Try.pinned (OpenSpec.ofChange fnFlushSameWrong)

/- THE SECOND FORM. 'bulk': how many values and letters a reading holds, each counted each time it is reached (what is shared counts as often as it is met; a slice's spare places count too). A statement '..UptoSaid' is the law's where the arguments, and the package variables that the reading takes, are together of bulk at most 1048576: NARROWER than '..Said'. Prove '..Said' where nothing that the law and all that it calls make is longer than what came in: it says more and counts as full. Else prove '..UptoSaid'. A law counts once. -/
mutual
def uptoBulk {H : Type} : DataW H → Nat
  | .lit (.string bytes) => bytes.length + 1
  | .lit _ => 1
  | .nil => 1
  | .ptr d => uptoBulk d + 1
  | .slice elems spare => uptoBulkAll elems + uptoBulkAll spare + 1
  | .agg parts => uptoBulkAll parts + 1
  | .iface _ d => uptoBulk d + 1
  | .map entries => uptoBulkEntries entries + 1
  | .held _ => 1
def uptoBulkAll {H : Type} : List (DataW H) → Nat
  | [] => 0
  | d :: r => uptoBulk d + uptoBulkAll r
def uptoBulkEntries {H : Type} : List (Lit × DataW H) → Nat
  | [] => 0
  | x :: r => uptoBulkEntry x + uptoBulkEntries r
def uptoBulkEntry {H : Type} : Lit × DataW H → Nat
  | (.string bytes, d) => bytes.length + uptoBulk d + 1
  | (_, d) => uptoBulk d + 1
 end
def uptoSmall : (H : Type) → List (DataW H) → Bool := fun _ ds => decide (uptoBulkAll ds ≤ 1048576)
def OpenSpec.upto (s : _root_.Go.ChangeSpec) : _root_.Go.OpenSpec := { _root_.Go.OpenSpec.ofChange s with cond := some uptoSmall }

/-- 'laws.FnFlushTwice', WHERE WHAT IT READS IS OF BULK AT MOST 1048576: true; the input reads as it did. -/
def fnFlushTwiceUptoRow : OpenClaim := { program := "ythmgfgiaagkdeaa", sum := "591362977fe658611ff3faf7f8cc06f847d1ebc1444768d0784a95321a6333ec", func := "loop.example/mixrelay/laws.FnFlushTwice", spec := "fnFlushTwice", unfollowed := true, recurses := true, apart := false, narrowed := true }
def FnFlushTwiceUptoSaid : Prop := fnFlushTwiceUptoRow.holds Try.pinned (OpenSpec.upto fnFlushTwiceSpec)

/-- 'laws.FnTakeSpace', WHERE WHAT IT READS IS OF BULK AT MOST 1048576: true; the input reads as it did. -/
def fnTakeSpaceUptoRow : OpenClaim := { program := "ythmgfgiaagkdeaa", sum := "591362977fe658611ff3faf7f8cc06f847d1ebc1444768d0784a95321a6333ec", func := "loop.example/mixrelay/laws.FnTakeSpace", spec := "fnTakeSpace", unfollowed := true, recurses := true, apart := false, narrowed := true }
def FnTakeSpaceUptoSaid : Prop := fnTakeSpaceUptoRow.holds Try.pinned (OpenSpec.upto fnTakeSpaceSpec)

/-- 'laws.FnTakeTwice', WHERE WHAT IT READS IS OF BULK AT MOST 1048576: true; the input reads as it did. -/
def fnTakeTwiceUptoRow : OpenClaim := { program := "ythmgfgiaagkdeaa", sum := "591362977fe658611ff3faf7f8cc06f847d1ebc1444768d0784a95321a6333ec", func := "loop.example/mixrelay/laws.FnTakeTwice", spec := "fnTakeTwice", unfollowed := true, recurses := true, apart := false, narrowed := true }
def FnTakeTwiceUptoSaid : Prop := fnTakeTwiceUptoRow.holds Try.pinned (OpenSpec.upto fnTakeTwiceSpec)

/-- 'laws.FnExactReplyOpen', WHERE WHAT IT READS IS OF BULK AT MOST 1048576: true; the input reads as it did. -/
def fnExactReplyOpenUptoRow : OpenClaim := { program := "ythmgfgiaagkdeaa", sum := "591362977fe658611ff3faf7f8cc06f847d1ebc1444768d0784a95321a6333ec", func := "loop.example/mixrelay/laws.FnExactReplyOpen", spec := "fnExactReplyOpen", apart := false, narrowed := true }
def FnExactReplyOpenUptoSaid : Prop := fnExactReplyOpenUptoRow.holds Try.pinned (OpenSpec.upto fnExactReplyOpenSpec)

/-- 'laws.FnExactReplyFill', WHERE WHAT IT READS IS OF BULK AT MOST 1048576: true; the input reads as it did. -/
def fnExactReplyFillUptoRow : OpenClaim := { program := "ythmgfgiaagkdeaa", sum := "591362977fe658611ff3faf7f8cc06f847d1ebc1444768d0784a95321a6333ec", func := "loop.example/mixrelay/laws.FnExactReplyFill", spec := "fnExactReplyFill", apart := false, narrowed := true }
def FnExactReplyFillUptoSaid : Prop := fnExactReplyFillUptoRow.holds Try.pinned (OpenSpec.upto fnExactReplyFillSpec)

/-- 'laws.FnExactMixTake', WHERE WHAT IT READS IS OF BULK AT MOST 1048576: true; the input reads as it did. -/
def fnExactMixTakeUptoRow : OpenClaim := { program := "ythmgfgiaagkdeaa", sum := "591362977fe658611ff3faf7f8cc06f847d1ebc1444768d0784a95321a6333ec", func := "loop.example/mixrelay/laws.FnExactMixTake", spec := "fnExactMixTake", apart := false, narrowed := true }
def FnExactMixTakeUptoSaid : Prop := fnExactMixTakeUptoRow.holds Try.pinned (OpenSpec.upto fnExactMixTakeSpec)

/-- 'laws.FnTake', WHERE WHAT IT READS IS OF BULK AT MOST 1048576: true; the input reads as it did. -/
def fnTakeUptoRow : OpenClaim := { program := "ythmgfgiaagkdeaa", sum := "591362977fe658611ff3faf7f8cc06f847d1ebc1444768d0784a95321a6333ec", func := "loop.example/mixrelay/laws.FnTake", spec := "fnTake", apart := false, narrowed := true }
def FnTakeUptoSaid : Prop := fnTakeUptoRow.holds Try.pinned (OpenSpec.upto fnTakeSpec)

/-- 'laws.FnTakeBody', WHERE WHAT IT READS IS OF BULK AT MOST 1048576: true; the input reads as it did. -/
def fnTakeBodyUptoRow : OpenClaim := { program := "ythmgfgiaagkdeaa", sum := "591362977fe658611ff3faf7f8cc06f847d1ebc1444768d0784a95321a6333ec", func := "loop.example/mixrelay/laws.FnTakeBody", spec := "fnTakeBody", apart := false, narrowed := true }
def FnTakeBodyUptoSaid : Prop := fnTakeBodyUptoRow.holds Try.pinned (OpenSpec.upto fnTakeBodySpec)

/-- 'laws.FnTakeChanged', WHERE WHAT IT READS IS OF BULK AT MOST 1048576: true; the input reads as it did. -/
def fnTakeChangedUptoRow : OpenClaim := { program := "ythmgfgiaagkdeaa", sum := "591362977fe658611ff3faf7f8cc06f847d1ebc1444768d0784a95321a6333ec", func := "loop.example/mixrelay/laws.FnTakeChanged", spec := "fnTakeChanged", apart := false, narrowed := true }
def FnTakeChangedUptoSaid : Prop := fnTakeChangedUptoRow.holds Try.pinned (OpenSpec.upto fnTakeChangedSpec)

/-- 'laws.FnTakeCodes', WHERE WHAT IT READS IS OF BULK AT MOST 1048576: true; the input reads as it did. -/
def fnTakeCodesUptoRow : OpenClaim := { program := "ythmgfgiaagkdeaa", sum := "591362977fe658611ff3faf7f8cc06f847d1ebc1444768d0784a95321a6333ec", func := "loop.example/mixrelay/laws.FnTakeCodes", spec := "fnTakeCodes", apart := false, narrowed := true }
def FnTakeCodesUptoSaid : Prop := fnTakeCodesUptoRow.holds Try.pinned (OpenSpec.upto fnTakeCodesSpec)

/-- 'laws.FnExactMixFlush', WHERE WHAT IT READS IS OF BULK AT MOST 1048576: true; the input reads as it did. -/
def fnExactMixFlushUptoRow : OpenClaim := { program := "ythmgfgiaagkdeaa", sum := "591362977fe658611ff3faf7f8cc06f847d1ebc1444768d0784a95321a6333ec", func := "loop.example/mixrelay/laws.FnExactMixFlush", spec := "fnExactMixFlush", unfollowed := true, recurses := true, apart := false, narrowed := true }
def FnExactMixFlushUptoSaid : Prop := fnExactMixFlushUptoRow.holds Try.pinned (OpenSpec.upto fnExactMixFlushSpec)

/-- 'laws.FnFlush', WHERE WHAT IT READS IS OF BULK AT MOST 1048576: true; the input reads as it did. -/
def fnFlushUptoRow : OpenClaim := { program := "ythmgfgiaagkdeaa", sum := "591362977fe658611ff3faf7f8cc06f847d1ebc1444768d0784a95321a6333ec", func := "loop.example/mixrelay/laws.FnFlush", spec := "fnFlush", unfollowed := true, recurses := true, apart := false, narrowed := true }
def FnFlushUptoSaid : Prop := fnFlushUptoRow.holds Try.pinned (OpenSpec.upto fnFlushSpec)

/-- 'laws.FnFlushMix', WHERE WHAT IT READS IS OF BULK AT MOST 1048576: true; the input reads as it did. -/
def fnFlushMixUptoRow : OpenClaim := { program := "ythmgfgiaagkdeaa", sum := "591362977fe658611ff3faf7f8cc06f847d1ebc1444768d0784a95321a6333ec", func := "loop.example/mixrelay/laws.FnFlushMix", spec := "fnFlushMix", unfollowed := true, recurses := true, apart := false, narrowed := true }
def FnFlushMixUptoSaid : Prop := fnFlushMixUptoRow.holds Try.pinned (OpenSpec.upto fnFlushMixSpec)

/-- 'laws.FnFlushOrder', WHERE WHAT IT READS IS OF BULK AT MOST 1048576: true; the input reads as it did. -/
def fnFlushOrderUptoRow : OpenClaim := { program := "ythmgfgiaagkdeaa", sum := "591362977fe658611ff3faf7f8cc06f847d1ebc1444768d0784a95321a6333ec", func := "loop.example/mixrelay/laws.FnFlushOrder", spec := "fnFlushOrder", unfollowed := true, recurses := true, apart := false, narrowed := true }
def FnFlushOrderUptoSaid : Prop := fnFlushOrderUptoRow.holds Try.pinned (OpenSpec.upto fnFlushOrderSpec)

/-- 'laws.FnFlushSame', WHERE WHAT IT READS IS OF BULK AT MOST 1048576: true; the input reads as it did. -/
def fnFlushSameUptoRow : OpenClaim := { program := "ythmgfgiaagkdeaa", sum := "591362977fe658611ff3faf7f8cc06f847d1ebc1444768d0784a95321a6333ec", func := "loop.example/mixrelay/laws.FnFlushSame", spec := "fnFlushSame", unfollowed := true, recurses := true, apart := false, narrowed := true }
def FnFlushSameUptoSaid : Prop := fnFlushSameUptoRow.holds Try.pinned (OpenSpec.upto fnFlushSameSpec)

end Rows
end Go.Proofs.Ythmgfgiaagkdeaa
