/-
  No cell of these rows narrows 'for every input' (looked for: loops, veiled, ifaces, maps, wideKeys, modest, calm, conditions, laid).
  DERIVED. THE GIVEN ROWS OF THIS SEAT. 5 by the template 'for every input the law returns true; each argument reads behind the call as it read before'; 0 by the template 'total and deterministic' (their statements: YtcldkllllojgpaaTotals.lean).
  GIVEN WITH THE SEED: the statements are not yours to turn. If you find one false, say at which input.
  Laid BY PROGRAM, IN A SANDBOX (cutbox-rows.mjs): the forced cells as the released guide's own fill.sh prints them over the translation 1e3ca16476453b57… (all of the seat's roots in one cut). By AI agents, Wed Nov 11 2026. No macro, syntax, notation, axiom, sorry.
-/
import Derived.Test.YtcldkllllojgpaaChecked
import GoSem.Claim
import GoSem.ClaimJoined
import GoSem.ClaimMapViews
import Derived.JoinedTies
import Derived.KernelRfl
namespace Go.Proofs.Ytcldkllllojgpaa
/- THE CELL 'sum', in the pinned program and in every row, IS THE sha256 OF THE DUMP (.gsa) THAT YtcldkllllojgpaaProg.lean LOADS. Nothing in Lean hashes anything: it is a label: what it is worth is what the hold of that sum in a sandbox is worth. -/
noncomputable def Try.pinned : Pinned := { name := "ytcldkllllojgpaa", sum := "1e3ca16476453b574ec9488ed0ed22789ae4c4e47d8907eb9c14095374071ad8", checked := Try.checked }
namespace Rows
def none {H : Type} : Left H := { results := [], args := [] }

/-- 'laws.FnExactTreeDepth': WHATEVER THE INPUT: true; the input reads as it did. -/
def fnExactTreeDepthSpec : ChangeSpec := { name := "fnExactTreeDepth", fn := fun _ => fun
  | [d1, d2] => { results := [.lit (.bool true)], args := [d1, d2] }
  | _ => none }
def fnExactTreeDepthRow : OpenClaim := { program := "ytcldkllllojgpaa", sum := "1e3ca16476453b574ec9488ed0ed22789ae4c4e47d8907eb9c14095374071ad8", func := "loop.example/g01174/laws.FnExactTreeDepth", spec := "fnExactTreeDepth", recurses := true, apart := false }
def FnExactTreeDepthSaid : Prop := fnExactTreeDepthRow.holds Try.pinned (OpenSpec.ofChange fnExactTreeDepthSpec)

/-- ITS FALSE NEIGHBOUR: 'it returns false'. Refute it at one input. -/
def fnExactTreeDepthWrong : ChangeSpec := { name := "fnExactTreeDepth", fn := fun _ => fun
  | [d1, d2] => { results := [.lit (.bool false)], args := [d1, d2] }
  | _ => none }
def FnExactTreeDepthWrongFalsely : Prop := fnExactTreeDepthRow.holds Try.pinned (OpenSpec.ofChange fnExactTreeDepthWrong)

/-- 'laws.FnExactSameEntries': WHATEVER THE INPUT: true; the input reads as it did. -/
def fnExactSameEntriesSpec : ChangeSpec := { name := "fnExactSameEntries", fn := fun _ => fun
  | [d1, d2] => { results := [.lit (.bool true)], args := [d1, d2] }
  | _ => none }
def fnExactSameEntriesRow : OpenClaim := { program := "ytcldkllllojgpaa", sum := "1e3ca16476453b574ec9488ed0ed22789ae4c4e47d8907eb9c14095374071ad8", func := "loop.example/g01174/laws.FnExactSameEntries", spec := "fnExactSameEntries", apart := false }
def FnExactSameEntriesSaid : Prop := fnExactSameEntriesRow.holds Try.pinned (OpenSpec.ofChange fnExactSameEntriesSpec)

/-- ITS FALSE NEIGHBOUR: 'it returns false'. Refute it at one input. -/
def fnExactSameEntriesWrong : ChangeSpec := { name := "fnExactSameEntries", fn := fun _ => fun
  | [d1, d2] => { results := [.lit (.bool false)], args := [d1, d2] }
  | _ => none }
def FnExactSameEntriesWrongFalsely : Prop := fnExactSameEntriesRow.holds Try.pinned (OpenSpec.ofChange fnExactSameEntriesWrong)

/-- 'laws.FnExactValidEntries': WHATEVER THE INPUT: true; the input reads as it did. -/
def fnExactValidEntriesSpec : ChangeSpec := { name := "fnExactValidEntries", fn := fun _ => fun
  | [d] => { results := [.lit (.bool true)], args := [d] }
  | _ => none }
def fnExactValidEntriesRow : OpenClaim := { program := "ytcldkllllojgpaa", sum := "1e3ca16476453b574ec9488ed0ed22789ae4c4e47d8907eb9c14095374071ad8", func := "loop.example/g01174/laws.FnExactValidEntries", spec := "fnExactValidEntries", apart := false }
def FnExactValidEntriesSaid : Prop := fnExactValidEntriesRow.holds Try.pinned (OpenSpec.ofChange fnExactValidEntriesSpec)

/-- ITS FALSE NEIGHBOUR: 'it returns false'. Refute it at one input. -/
def fnExactValidEntriesWrong : ChangeSpec := { name := "fnExactValidEntries", fn := fun _ => fun
  | [d] => { results := [.lit (.bool false)], args := [d] }
  | _ => none }
def FnExactValidEntriesWrongFalsely : Prop := fnExactValidEntriesRow.holds Try.pinned (OpenSpec.ofChange fnExactValidEntriesWrong)

/-- 'laws.FnExactReadMapNode': WHATEVER THE INPUT: true; the input reads as it did. -/
def fnExactReadMapNodeSpec : ChangeSpec := { name := "fnExactReadMapNode", fn := fun _ => fun
  | [d] => { results := [.lit (.bool true)], args := [d] }
  | _ => none }
def fnExactReadMapNodeRow : OpenClaim := { program := "ytcldkllllojgpaa", sum := "1e3ca16476453b574ec9488ed0ed22789ae4c4e47d8907eb9c14095374071ad8", func := "loop.example/g01174/laws.FnExactReadMapNode", spec := "fnExactReadMapNode", apart := false }
def FnExactReadMapNodeSaid : Prop := fnExactReadMapNodeRow.holds Try.pinned (OpenSpec.ofChange fnExactReadMapNodeSpec)

/-- ITS FALSE NEIGHBOUR: 'it returns false'. Refute it at one input. -/
def fnExactReadMapNodeWrong : ChangeSpec := { name := "fnExactReadMapNode", fn := fun _ => fun
  | [d] => { results := [.lit (.bool false)], args := [d] }
  | _ => none }
def FnExactReadMapNodeWrongFalsely : Prop := fnExactReadMapNodeRow.holds Try.pinned (OpenSpec.ofChange fnExactReadMapNodeWrong)

/-- 'laws.FnExactMapNodeBytes': WHATEVER THE INPUT: true; the input reads as it did. -/
def fnExactMapNodeBytesSpec : ChangeSpec := { name := "fnExactMapNodeBytes", fn := fun _ => fun
  | [d] => { results := [.lit (.bool true)], args := [d] }
  | _ => none }
def fnExactMapNodeBytesRow : OpenClaim := { program := "ytcldkllllojgpaa", sum := "1e3ca16476453b574ec9488ed0ed22789ae4c4e47d8907eb9c14095374071ad8", func := "loop.example/g01174/laws.FnExactMapNodeBytes", spec := "fnExactMapNodeBytes", apart := false }
def FnExactMapNodeBytesSaid : Prop := fnExactMapNodeBytesRow.holds Try.pinned (OpenSpec.ofChange fnExactMapNodeBytesSpec)

/-- ITS FALSE NEIGHBOUR: 'it returns false'. Refute it at one input. -/
def fnExactMapNodeBytesWrong : ChangeSpec := { name := "fnExactMapNodeBytes", fn := fun _ => fun
  | [d] => { results := [.lit (.bool false)], args := [d] }
  | _ => none }
def FnExactMapNodeBytesWrongFalsely : Prop := fnExactMapNodeBytesRow.holds Try.pinned (OpenSpec.ofChange fnExactMapNodeBytesWrong)

/- THE SECOND FORM. 'bulk': how many values and letters a reading holds, each counted each time it is reached (what is shared counts as often as it is met; a slice's spare places count too). A statement '..UptoSaid' is the law's where the arguments, and the package variables that the reading takes, are together of bulk at most 1048576: NARROWER than '..Said'. Prove '..Said' where nothing that the law and all that it calls make is longer than what came in: it says more and counts as full. Else prove '..UptoSaid'. A law counts once. -/
mutual
def uptoBulk {H : Type} : DataW H → Nat
  | .lit (.string bytes) => bytes.length + 1
  | .lit _ => 1
  | .nil => 1
  | .ptr d => uptoBulk d + 1
  | .slice elems spare => uptoBulkAll elems + uptoBulkAll spare + 1
  | .agg parts => uptoBulkAll parts + 1
  | .iface _ d => uptoBulk d + 1
  | .map entries => uptoBulkEntries entries + 1
  | .held _ => 1
def uptoBulkAll {H : Type} : List (DataW H) → Nat
  | [] => 0
  | d :: r => uptoBulk d + uptoBulkAll r
def uptoBulkEntries {H : Type} : List (Lit × DataW H) → Nat
  | [] => 0
  | x :: r => uptoBulkEntry x + uptoBulkEntries r
def uptoBulkEntry {H : Type} : Lit × DataW H → Nat
  | (.string bytes, d) => bytes.length + uptoBulk d + 1
  | (_, d) => uptoBulk d + 1
 end
def uptoSmall : (H : Type) → List (DataW H) → Bool := fun _ ds => decide (uptoBulkAll ds ≤ 1048576)
def OpenSpec.upto (s : _root_.Go.ChangeSpec) : _root_.Go.OpenSpec := { _root_.Go.OpenSpec.ofChange s with cond := some uptoSmall }

/-- 'laws.FnExactTreeDepth', WHERE WHAT IT READS IS OF BULK AT MOST 1048576: true; the input reads as it did. -/
def fnExactTreeDepthUptoRow : OpenClaim := { program := "ytcldkllllojgpaa", sum := "1e3ca16476453b574ec9488ed0ed22789ae4c4e47d8907eb9c14095374071ad8", func := "loop.example/g01174/laws.FnExactTreeDepth", spec := "fnExactTreeDepth", recurses := true, apart := false, narrowed := true }
def FnExactTreeDepthUptoSaid : Prop := fnExactTreeDepthUptoRow.holds Try.pinned (OpenSpec.upto fnExactTreeDepthSpec)

/-- 'laws.FnExactSameEntries', WHERE WHAT IT READS IS OF BULK AT MOST 1048576: true; the input reads as it did. -/
def fnExactSameEntriesUptoRow : OpenClaim := { program := "ytcldkllllojgpaa", sum := "1e3ca16476453b574ec9488ed0ed22789ae4c4e47d8907eb9c14095374071ad8", func := "loop.example/g01174/laws.FnExactSameEntries", spec := "fnExactSameEntries", apart := false, narrowed := true }
def FnExactSameEntriesUptoSaid : Prop := fnExactSameEntriesUptoRow.holds Try.pinned (OpenSpec.upto fnExactSameEntriesSpec)

/-- 'laws.FnExactValidEntries', WHERE WHAT IT READS IS OF BULK AT MOST 1048576: true; the input reads as it did. -/
def fnExactValidEntriesUptoRow : OpenClaim := { program := "ytcldkllllojgpaa", sum := "1e3ca16476453b574ec9488ed0ed22789ae4c4e47d8907eb9c14095374071ad8", func := "loop.example/g01174/laws.FnExactValidEntries", spec := "fnExactValidEntries", apart := false, narrowed := true }
def FnExactValidEntriesUptoSaid : Prop := fnExactValidEntriesUptoRow.holds Try.pinned (OpenSpec.upto fnExactValidEntriesSpec)

/-- 'laws.FnExactReadMapNode', WHERE WHAT IT READS IS OF BULK AT MOST 1048576: true; the input reads as it did. -/
def fnExactReadMapNodeUptoRow : OpenClaim := { program := "ytcldkllllojgpaa", sum := "1e3ca16476453b574ec9488ed0ed22789ae4c4e47d8907eb9c14095374071ad8", func := "loop.example/g01174/laws.FnExactReadMapNode", spec := "fnExactReadMapNode", apart := false, narrowed := true }
def FnExactReadMapNodeUptoSaid : Prop := fnExactReadMapNodeUptoRow.holds Try.pinned (OpenSpec.upto fnExactReadMapNodeSpec)

/-- 'laws.FnExactMapNodeBytes', WHERE WHAT IT READS IS OF BULK AT MOST 1048576: true; the input reads as it did. -/
def fnExactMapNodeBytesUptoRow : OpenClaim := { program := "ytcldkllllojgpaa", sum := "1e3ca16476453b574ec9488ed0ed22789ae4c4e47d8907eb9c14095374071ad8", func := "loop.example/g01174/laws.FnExactMapNodeBytes", spec := "fnExactMapNodeBytes", apart := false, narrowed := true }
def FnExactMapNodeBytesUptoSaid : Prop := fnExactMapNodeBytesUptoRow.holds Try.pinned (OpenSpec.upto fnExactMapNodeBytesSpec)

end Rows
end Go.Proofs.Ytcldkllllojgpaa
