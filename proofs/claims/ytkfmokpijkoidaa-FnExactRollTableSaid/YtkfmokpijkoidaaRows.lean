/-
  No cell of these rows narrows 'for every input' (looked for: loops, veiled, ifaces, maps, wideKeys, modest, calm, conditions, laid).
  DERIVED. THE GIVEN ROWS OF THIS SEAT. 12 by the template 'for every input the law returns true; each argument reads behind the call as it read before'; 0 by the template 'total and deterministic' (their statements: YtkfmokpijkoidaaTotals.lean).
  GIVEN WITH THE SEED: the statements are not yours to turn. If you find one false, say at which input.
  Laid BY PROGRAM, IN A SANDBOX (cutbox-rows.mjs): the forced cells as the released guide's own fill.sh prints them over the translation 527e044785191689… (all of the seat's roots in one cut). By AI agents, Wed Nov 11 2026. No macro, syntax, notation, axiom, sorry.
-/
import Derived.Test.YtkfmokpijkoidaaChecked
import GoSem.Claim
import GoSem.ClaimJoined
import GoSem.ClaimMapViews
import Derived.JoinedTies
import Derived.KernelRfl
namespace Go.Proofs.Ytkfmokpijkoidaa
/- THE CELL 'sum', in the pinned program and in every row, IS THE sha256 OF THE DUMP (.gsa) THAT YtkfmokpijkoidaaProg.lean LOADS. Nothing in Lean hashes anything: it is a label: what it is worth is what the hold of that sum in a sandbox is worth. -/
noncomputable def Try.pinned : Pinned := { name := "ytkfmokpijkoidaa", sum := "527e0447851916896909a17f730437254da636eeb525b1a85e33cf1925d33876", checked := Try.checked }
namespace Rows
def none {H : Type} : Left H := { results := [], args := [] }

/-- 'laws.FnExactMixBlock': WHATEVER THE INPUT: true; the input reads as it did. -/
def fnExactMixBlockSpec : ChangeSpec := { name := "fnExactMixBlock", fn := fun _ => fun
  | [d1, d2] => { results := [.lit (.bool true)], args := [d1, d2] }
  | _ => none }
def fnExactMixBlockRow : OpenClaim := { program := "ytkfmokpijkoidaa", sum := "527e0447851916896909a17f730437254da636eeb525b1a85e33cf1925d33876", func := "loop.example/g01174/laws.FnExactMixBlock", spec := "fnExactMixBlock", apart := false }
def FnExactMixBlockSaid : Prop := fnExactMixBlockRow.holds Try.pinned (OpenSpec.ofChange fnExactMixBlockSpec)

/-- ITS FALSE NEIGHBOUR: 'it returns false'. Refute it at one input. -/
def fnExactMixBlockWrong : ChangeSpec := { name := "fnExactMixBlock", fn := fun _ => fun
  | [d1, d2] => { results := [.lit (.bool false)], args := [d1, d2] }
  | _ => none }
def FnExactMixBlockWrongFalsely : Prop := fnExactMixBlockRow.holds Try.pinned (OpenSpec.ofChange fnExactMixBlockWrong)

/-- 'laws.FnExactStartHasher': WHATEVER THE INPUT: true; the input reads as it did. -/
def fnExactStartHasherSpec : ChangeSpec := { name := "fnExactStartHasher", fn := fun _ => fun
  | [d] => { results := [.lit (.bool true)], args := [d] }
  | _ => none }
def fnExactStartHasherRow : OpenClaim := { program := "ytkfmokpijkoidaa", sum := "527e0447851916896909a17f730437254da636eeb525b1a85e33cf1925d33876", func := "loop.example/g01174/laws.FnExactStartHasher", spec := "fnExactStartHasher", apart := false }
def FnExactStartHasherSaid : Prop := fnExactStartHasherRow.holds Try.pinned (OpenSpec.ofChange fnExactStartHasherSpec)

/-- ITS FALSE NEIGHBOUR: 'it returns false'. Refute it at one input. -/
def fnExactStartHasherWrong : ChangeSpec := { name := "fnExactStartHasher", fn := fun _ => fun
  | [d] => { results := [.lit (.bool false)], args := [d] }
  | _ => none }
def FnExactStartHasherWrongFalsely : Prop := fnExactStartHasherRow.holds Try.pinned (OpenSpec.ofChange fnExactStartHasherWrong)

/-- 'laws.FnExactSameEntries': WHATEVER THE INPUT: true; the input reads as it did. -/
def fnExactSameEntriesSpec : ChangeSpec := { name := "fnExactSameEntries", fn := fun _ => fun
  | [d1, d2] => { results := [.lit (.bool true)], args := [d1, d2] }
  | _ => none }
def fnExactSameEntriesRow : OpenClaim := { program := "ytkfmokpijkoidaa", sum := "527e0447851916896909a17f730437254da636eeb525b1a85e33cf1925d33876", func := "loop.example/g01174/laws.FnExactSameEntries", spec := "fnExactSameEntries", apart := false }
def FnExactSameEntriesSaid : Prop := fnExactSameEntriesRow.holds Try.pinned (OpenSpec.ofChange fnExactSameEntriesSpec)

/-- ITS FALSE NEIGHBOUR: 'it returns false'. Refute it at one input. -/
def fnExactSameEntriesWrong : ChangeSpec := { name := "fnExactSameEntries", fn := fun _ => fun
  | [d1, d2] => { results := [.lit (.bool false)], args := [d1, d2] }
  | _ => none }
def FnExactSameEntriesWrongFalsely : Prop := fnExactSameEntriesRow.holds Try.pinned (OpenSpec.ofChange fnExactSameEntriesWrong)

/-- 'laws.FnExactValidEntries': WHATEVER THE INPUT: true; the input reads as it did. -/
def fnExactValidEntriesSpec : ChangeSpec := { name := "fnExactValidEntries", fn := fun _ => fun
  | [d] => { results := [.lit (.bool true)], args := [d] }
  | _ => none }
def fnExactValidEntriesRow : OpenClaim := { program := "ytkfmokpijkoidaa", sum := "527e0447851916896909a17f730437254da636eeb525b1a85e33cf1925d33876", func := "loop.example/g01174/laws.FnExactValidEntries", spec := "fnExactValidEntries", apart := false }
def FnExactValidEntriesSaid : Prop := fnExactValidEntriesRow.holds Try.pinned (OpenSpec.ofChange fnExactValidEntriesSpec)

/-- ITS FALSE NEIGHBOUR: 'it returns false'. Refute it at one input. -/
def fnExactValidEntriesWrong : ChangeSpec := { name := "fnExactValidEntries", fn := fun _ => fun
  | [d] => { results := [.lit (.bool false)], args := [d] }
  | _ => none }
def FnExactValidEntriesWrongFalsely : Prop := fnExactValidEntriesRow.holds Try.pinned (OpenSpec.ofChange fnExactValidEntriesWrong)

/-- 'laws.FnExactRollTable': WHATEVER THE INPUT: true; the input reads as it did. -/
def fnExactRollTableSpec : ChangeSpec := { name := "fnExactRollTable", fn := fun _ => fun
  | [] => { results := [.lit (.bool true)], args := [] }
  | _ => none }
def fnExactRollTableRow : OpenClaim := { program := "ytkfmokpijkoidaa", sum := "527e0447851916896909a17f730437254da636eeb525b1a85e33cf1925d33876", func := "loop.example/g01174/laws.FnExactRollTable", spec := "fnExactRollTable", apart := false }
def FnExactRollTableSaid : Prop := fnExactRollTableRow.holds Try.pinned (OpenSpec.ofChange fnExactRollTableSpec)

/-- ITS FALSE NEIGHBOUR: 'it returns false'. Refute it at one input. -/
def fnExactRollTableWrong : ChangeSpec := { name := "fnExactRollTable", fn := fun _ => fun
  | [] => { results := [.lit (.bool false)], args := [] }
  | _ => none }
def FnExactRollTableWrongFalsely : Prop := fnExactRollTableRow.holds Try.pinned (OpenSpec.ofChange fnExactRollTableWrong)

/-- 'laws.FnExactSameCutter': WHATEVER THE INPUT: true; the input reads as it did. -/
def fnExactSameCutterSpec : ChangeSpec := { name := "fnExactSameCutter", fn := fun _ => fun
  | [d1, d2] => { results := [.lit (.bool true)], args := [d1, d2] }
  | _ => none }
def fnExactSameCutterRow : OpenClaim := { program := "ytkfmokpijkoidaa", sum := "527e0447851916896909a17f730437254da636eeb525b1a85e33cf1925d33876", func := "loop.example/g01174/laws.FnExactSameCutter", spec := "fnExactSameCutter", apart := false }
def FnExactSameCutterSaid : Prop := fnExactSameCutterRow.holds Try.pinned (OpenSpec.ofChange fnExactSameCutterSpec)

/-- ITS FALSE NEIGHBOUR: 'it returns false'. Refute it at one input. -/
def fnExactSameCutterWrong : ChangeSpec := { name := "fnExactSameCutter", fn := fun _ => fun
  | [d1, d2] => { results := [.lit (.bool false)], args := [d1, d2] }
  | _ => none }
def FnExactSameCutterWrongFalsely : Prop := fnExactSameCutterRow.holds Try.pinned (OpenSpec.ofChange fnExactSameCutterWrong)

/-- 'laws.FnExactStartCutter': WHATEVER THE INPUT: true; the input reads as it did. -/
def fnExactStartCutterSpec : ChangeSpec := { name := "fnExactStartCutter", fn := fun _ => fun
  | [d] => { results := [.lit (.bool true)], args := [d] }
  | _ => none }
def fnExactStartCutterRow : OpenClaim := { program := "ytkfmokpijkoidaa", sum := "527e0447851916896909a17f730437254da636eeb525b1a85e33cf1925d33876", func := "loop.example/g01174/laws.FnExactStartCutter", spec := "fnExactStartCutter", apart := false }
def FnExactStartCutterSaid : Prop := fnExactStartCutterRow.holds Try.pinned (OpenSpec.ofChange fnExactStartCutterSpec)

/-- ITS FALSE NEIGHBOUR: 'it returns false'. Refute it at one input. -/
def fnExactStartCutterWrong : ChangeSpec := { name := "fnExactStartCutter", fn := fun _ => fun
  | [d] => { results := [.lit (.bool false)], args := [d] }
  | _ => none }
def FnExactStartCutterWrongFalsely : Prop := fnExactStartCutterRow.holds Try.pinned (OpenSpec.ofChange fnExactStartCutterWrong)

/-- 'laws.FnExactReadMapNode': WHATEVER THE INPUT: true; the input reads as it did. -/
def fnExactReadMapNodeSpec : ChangeSpec := { name := "fnExactReadMapNode", fn := fun _ => fun
  | [d] => { results := [.lit (.bool true)], args := [d] }
  | _ => none }
def fnExactReadMapNodeRow : OpenClaim := { program := "ytkfmokpijkoidaa", sum := "527e0447851916896909a17f730437254da636eeb525b1a85e33cf1925d33876", func := "loop.example/g01174/laws.FnExactReadMapNode", spec := "fnExactReadMapNode", apart := false }
def FnExactReadMapNodeSaid : Prop := fnExactReadMapNodeRow.holds Try.pinned (OpenSpec.ofChange fnExactReadMapNodeSpec)

/-- ITS FALSE NEIGHBOUR: 'it returns false'. Refute it at one input. -/
def fnExactReadMapNodeWrong : ChangeSpec := { name := "fnExactReadMapNode", fn := fun _ => fun
  | [d] => { results := [.lit (.bool false)], args := [d] }
  | _ => none }
def FnExactReadMapNodeWrongFalsely : Prop := fnExactReadMapNodeRow.holds Try.pinned (OpenSpec.ofChange fnExactReadMapNodeWrong)

/-- 'laws.FnExactSameHasher': WHATEVER THE INPUT: true; the input reads as it did. -/
def fnExactSameHasherSpec : ChangeSpec := { name := "fnExactSameHasher", fn := fun _ => fun
  | [d1, d2] => { results := [.lit (.bool true)], args := [d1, d2] }
  | _ => none }
def fnExactSameHasherRow : OpenClaim := { program := "ytkfmokpijkoidaa", sum := "527e0447851916896909a17f730437254da636eeb525b1a85e33cf1925d33876", func := "loop.example/g01174/laws.FnExactSameHasher", spec := "fnExactSameHasher", apart := false }
def FnExactSameHasherSaid : Prop := fnExactSameHasherRow.holds Try.pinned (OpenSpec.ofChange fnExactSameHasherSpec)

/-- ITS FALSE NEIGHBOUR: 'it returns false'. Refute it at one input. -/
def fnExactSameHasherWrong : ChangeSpec := { name := "fnExactSameHasher", fn := fun _ => fun
  | [d1, d2] => { results := [.lit (.bool false)], args := [d1, d2] }
  | _ => none }
def FnExactSameHasherWrongFalsely : Prop := fnExactSameHasherRow.holds Try.pinned (OpenSpec.ofChange fnExactSameHasherWrong)

/-- 'laws.FnExactMapNodeBytes': WHATEVER THE INPUT: true; the input reads as it did. -/
def fnExactMapNodeBytesSpec : ChangeSpec := { name := "fnExactMapNodeBytes", fn := fun _ => fun
  | [d] => { results := [.lit (.bool true)], args := [d] }
  | _ => none }
def fnExactMapNodeBytesRow : OpenClaim := { program := "ytkfmokpijkoidaa", sum := "527e0447851916896909a17f730437254da636eeb525b1a85e33cf1925d33876", func := "loop.example/g01174/laws.FnExactMapNodeBytes", spec := "fnExactMapNodeBytes", apart := false }
def FnExactMapNodeBytesSaid : Prop := fnExactMapNodeBytesRow.holds Try.pinned (OpenSpec.ofChange fnExactMapNodeBytesSpec)

/-- ITS FALSE NEIGHBOUR: 'it returns false'. Refute it at one input. -/
def fnExactMapNodeBytesWrong : ChangeSpec := { name := "fnExactMapNodeBytes", fn := fun _ => fun
  | [d] => { results := [.lit (.bool false)], args := [d] }
  | _ => none }
def FnExactMapNodeBytesWrongFalsely : Prop := fnExactMapNodeBytesRow.holds Try.pinned (OpenSpec.ofChange fnExactMapNodeBytesWrong)

/-- 'laws.FnExactJoinChunks': WHATEVER THE INPUT: true; the input reads as it did. -/
def fnExactJoinChunksSpec : ChangeSpec := { name := "fnExactJoinChunks", fn := fun _ => fun
  | [d] => { results := [.lit (.bool true)], args := [d] }
  | _ => none }
def fnExactJoinChunksRow : OpenClaim := { program := "ytkfmokpijkoidaa", sum := "527e0447851916896909a17f730437254da636eeb525b1a85e33cf1925d33876", func := "loop.example/g01174/laws.FnExactJoinChunks", spec := "fnExactJoinChunks", apart := false }
def FnExactJoinChunksSaid : Prop := fnExactJoinChunksRow.holds Try.pinned (OpenSpec.ofChange fnExactJoinChunksSpec)

/-- ITS FALSE NEIGHBOUR: 'it returns false'. Refute it at one input. -/
def fnExactJoinChunksWrong : ChangeSpec := { name := "fnExactJoinChunks", fn := fun _ => fun
  | [d] => { results := [.lit (.bool false)], args := [d] }
  | _ => none }
def FnExactJoinChunksWrongFalsely : Prop := fnExactJoinChunksRow.holds Try.pinned (OpenSpec.ofChange fnExactJoinChunksWrong)

/-- 'laws.FnExactPadBlocks': WHATEVER THE INPUT: true; the input reads as it did. -/
def fnExactPadBlocksSpec : ChangeSpec := { name := "fnExactPadBlocks", fn := fun _ => fun
  | [d] => { results := [.lit (.bool true)], args := [d] }
  | _ => none }
def fnExactPadBlocksRow : OpenClaim := { program := "ytkfmokpijkoidaa", sum := "527e0447851916896909a17f730437254da636eeb525b1a85e33cf1925d33876", func := "loop.example/g01174/laws.FnExactPadBlocks", spec := "fnExactPadBlocks", apart := false }
def FnExactPadBlocksSaid : Prop := fnExactPadBlocksRow.holds Try.pinned (OpenSpec.ofChange fnExactPadBlocksSpec)

/-- ITS FALSE NEIGHBOUR: 'it returns false'. Refute it at one input. -/
def fnExactPadBlocksWrong : ChangeSpec := { name := "fnExactPadBlocks", fn := fun _ => fun
  | [d] => { results := [.lit (.bool false)], args := [d] }
  | _ => none }
def FnExactPadBlocksWrongFalsely : Prop := fnExactPadBlocksRow.holds Try.pinned (OpenSpec.ofChange fnExactPadBlocksWrong)

/- THE SECOND FORM. 'bulk': how many values and letters a reading holds, each counted each time it is reached (what is shared counts as often as it is met; a slice's spare places count too). A statement '..UptoSaid' is the law's where the arguments, and the package variables that the reading takes, are together of bulk at most 1048576: NARROWER than '..Said'. Prove '..Said' where nothing that the law and all that it calls make is longer than what came in: it says more and counts as full. Else prove '..UptoSaid'. A law counts once. -/
mutual
def uptoBulk {H : Type} : DataW H → Nat
  | .lit (.string bytes) => bytes.length + 1
  | .lit _ => 1
  | .nil => 1
  | .ptr d => uptoBulk d + 1
  | .slice elems spare => uptoBulkAll elems + uptoBulkAll spare + 1
  | .agg parts => uptoBulkAll parts + 1
  | .iface _ d => uptoBulk d + 1
  | .map entries => uptoBulkEntries entries + 1
  | .held _ => 1
def uptoBulkAll {H : Type} : List (DataW H) → Nat
  | [] => 0
  | d :: r => uptoBulk d + uptoBulkAll r
def uptoBulkEntries {H : Type} : List (Lit × DataW H) → Nat
  | [] => 0
  | x :: r => uptoBulkEntry x + uptoBulkEntries r
def uptoBulkEntry {H : Type} : Lit × DataW H → Nat
  | (.string bytes, d) => bytes.length + uptoBulk d + 1
  | (_, d) => uptoBulk d + 1
 end
def uptoSmall : (H : Type) → List (DataW H) → Bool := fun _ ds => decide (uptoBulkAll ds ≤ 1048576)
def OpenSpec.upto (s : _root_.Go.ChangeSpec) : _root_.Go.OpenSpec := { _root_.Go.OpenSpec.ofChange s with cond := some uptoSmall }

/-- 'laws.FnExactMixBlock', WHERE WHAT IT READS IS OF BULK AT MOST 1048576: true; the input reads as it did. -/
def fnExactMixBlockUptoRow : OpenClaim := { program := "ytkfmokpijkoidaa", sum := "527e0447851916896909a17f730437254da636eeb525b1a85e33cf1925d33876", func := "loop.example/g01174/laws.FnExactMixBlock", spec := "fnExactMixBlock", apart := false, narrowed := true }
def FnExactMixBlockUptoSaid : Prop := fnExactMixBlockUptoRow.holds Try.pinned (OpenSpec.upto fnExactMixBlockSpec)

/-- 'laws.FnExactStartHasher', WHERE WHAT IT READS IS OF BULK AT MOST 1048576: true; the input reads as it did. -/
def fnExactStartHasherUptoRow : OpenClaim := { program := "ytkfmokpijkoidaa", sum := "527e0447851916896909a17f730437254da636eeb525b1a85e33cf1925d33876", func := "loop.example/g01174/laws.FnExactStartHasher", spec := "fnExactStartHasher", apart := false, narrowed := true }
def FnExactStartHasherUptoSaid : Prop := fnExactStartHasherUptoRow.holds Try.pinned (OpenSpec.upto fnExactStartHasherSpec)

/-- 'laws.FnExactSameEntries', WHERE WHAT IT READS IS OF BULK AT MOST 1048576: true; the input reads as it did. -/
def fnExactSameEntriesUptoRow : OpenClaim := { program := "ytkfmokpijkoidaa", sum := "527e0447851916896909a17f730437254da636eeb525b1a85e33cf1925d33876", func := "loop.example/g01174/laws.FnExactSameEntries", spec := "fnExactSameEntries", apart := false, narrowed := true }
def FnExactSameEntriesUptoSaid : Prop := fnExactSameEntriesUptoRow.holds Try.pinned (OpenSpec.upto fnExactSameEntriesSpec)

/-- 'laws.FnExactValidEntries', WHERE WHAT IT READS IS OF BULK AT MOST 1048576: true; the input reads as it did. -/
def fnExactValidEntriesUptoRow : OpenClaim := { program := "ytkfmokpijkoidaa", sum := "527e0447851916896909a17f730437254da636eeb525b1a85e33cf1925d33876", func := "loop.example/g01174/laws.FnExactValidEntries", spec := "fnExactValidEntries", apart := false, narrowed := true }
def FnExactValidEntriesUptoSaid : Prop := fnExactValidEntriesUptoRow.holds Try.pinned (OpenSpec.upto fnExactValidEntriesSpec)

/-- 'laws.FnExactRollTable', WHERE WHAT IT READS IS OF BULK AT MOST 1048576: true; the input reads as it did. -/
def fnExactRollTableUptoRow : OpenClaim := { program := "ytkfmokpijkoidaa", sum := "527e0447851916896909a17f730437254da636eeb525b1a85e33cf1925d33876", func := "loop.example/g01174/laws.FnExactRollTable", spec := "fnExactRollTable", apart := false, narrowed := true }
def FnExactRollTableUptoSaid : Prop := fnExactRollTableUptoRow.holds Try.pinned (OpenSpec.upto fnExactRollTableSpec)

/-- 'laws.FnExactSameCutter', WHERE WHAT IT READS IS OF BULK AT MOST 1048576: true; the input reads as it did. -/
def fnExactSameCutterUptoRow : OpenClaim := { program := "ytkfmokpijkoidaa", sum := "527e0447851916896909a17f730437254da636eeb525b1a85e33cf1925d33876", func := "loop.example/g01174/laws.FnExactSameCutter", spec := "fnExactSameCutter", apart := false, narrowed := true }
def FnExactSameCutterUptoSaid : Prop := fnExactSameCutterUptoRow.holds Try.pinned (OpenSpec.upto fnExactSameCutterSpec)

/-- 'laws.FnExactStartCutter', WHERE WHAT IT READS IS OF BULK AT MOST 1048576: true; the input reads as it did. -/
def fnExactStartCutterUptoRow : OpenClaim := { program := "ytkfmokpijkoidaa", sum := "527e0447851916896909a17f730437254da636eeb525b1a85e33cf1925d33876", func := "loop.example/g01174/laws.FnExactStartCutter", spec := "fnExactStartCutter", apart := false, narrowed := true }
def FnExactStartCutterUptoSaid : Prop := fnExactStartCutterUptoRow.holds Try.pinned (OpenSpec.upto fnExactStartCutterSpec)

/-- 'laws.FnExactReadMapNode', WHERE WHAT IT READS IS OF BULK AT MOST 1048576: true; the input reads as it did. -/
def fnExactReadMapNodeUptoRow : OpenClaim := { program := "ytkfmokpijkoidaa", sum := "527e0447851916896909a17f730437254da636eeb525b1a85e33cf1925d33876", func := "loop.example/g01174/laws.FnExactReadMapNode", spec := "fnExactReadMapNode", apart := false, narrowed := true }
def FnExactReadMapNodeUptoSaid : Prop := fnExactReadMapNodeUptoRow.holds Try.pinned (OpenSpec.upto fnExactReadMapNodeSpec)

/-- 'laws.FnExactSameHasher', WHERE WHAT IT READS IS OF BULK AT MOST 1048576: true; the input reads as it did. -/
def fnExactSameHasherUptoRow : OpenClaim := { program := "ytkfmokpijkoidaa", sum := "527e0447851916896909a17f730437254da636eeb525b1a85e33cf1925d33876", func := "loop.example/g01174/laws.FnExactSameHasher", spec := "fnExactSameHasher", apart := false, narrowed := true }
def FnExactSameHasherUptoSaid : Prop := fnExactSameHasherUptoRow.holds Try.pinned (OpenSpec.upto fnExactSameHasherSpec)

/-- 'laws.FnExactMapNodeBytes', WHERE WHAT IT READS IS OF BULK AT MOST 1048576: true; the input reads as it did. -/
def fnExactMapNodeBytesUptoRow : OpenClaim := { program := "ytkfmokpijkoidaa", sum := "527e0447851916896909a17f730437254da636eeb525b1a85e33cf1925d33876", func := "loop.example/g01174/laws.FnExactMapNodeBytes", spec := "fnExactMapNodeBytes", apart := false, narrowed := true }
def FnExactMapNodeBytesUptoSaid : Prop := fnExactMapNodeBytesUptoRow.holds Try.pinned (OpenSpec.upto fnExactMapNodeBytesSpec)

/-- 'laws.FnExactJoinChunks', WHERE WHAT IT READS IS OF BULK AT MOST 1048576: true; the input reads as it did. -/
def fnExactJoinChunksUptoRow : OpenClaim := { program := "ytkfmokpijkoidaa", sum := "527e0447851916896909a17f730437254da636eeb525b1a85e33cf1925d33876", func := "loop.example/g01174/laws.FnExactJoinChunks", spec := "fnExactJoinChunks", apart := false, narrowed := true }
def FnExactJoinChunksUptoSaid : Prop := fnExactJoinChunksUptoRow.holds Try.pinned (OpenSpec.upto fnExactJoinChunksSpec)

/-- 'laws.FnExactPadBlocks', WHERE WHAT IT READS IS OF BULK AT MOST 1048576: true; the input reads as it did. -/
def fnExactPadBlocksUptoRow : OpenClaim := { program := "ytkfmokpijkoidaa", sum := "527e0447851916896909a17f730437254da636eeb525b1a85e33cf1925d33876", func := "loop.example/g01174/laws.FnExactPadBlocks", spec := "fnExactPadBlocks", apart := false, narrowed := true }
def FnExactPadBlocksUptoSaid : Prop := fnExactPadBlocksUptoRow.holds Try.pinned (OpenSpec.upto fnExactPadBlocksSpec)

end Rows
end Go.Proofs.Ytkfmokpijkoidaa
