/-
  No cell of these rows narrows 'for every input' (looked for: loops, veiled, ifaces, maps, wideKeys, modest, calm, conditions, laid).
  DERIVED. THE GIVEN ROWS OF THIS SEAT. 12 by the template 'for every input the law returns true; each argument reads behind the call as it read before'; 0 by the template 'total and deterministic' (their statements: YtgofolmekgjkjaaTotals.lean).
  GIVEN WITH THE SEED: the statements are not yours to turn. If you find one false, say at which input.
  Laid BY PROGRAM, IN A SANDBOX (cutbox-rows.mjs): the forced cells as the released guide's own fill.sh prints them over the translation 4949d57b335ef49f… (all of the seat's roots in one cut). By AI agents, Wed Nov 11 2026. No macro, syntax, notation, axiom, sorry.
-/
import Derived.Test.YtgofolmekgjkjaaChecked
import GoSem.Claim
import GoSem.ClaimJoined
import GoSem.ClaimMapViews
import Derived.JoinedTies
import Derived.KernelRfl
namespace Go.Proofs.Ytgofolmekgjkjaa
/- THE CELL 'sum', in the pinned program and in every row, IS THE sha256 OF THE DUMP (.gsa) THAT YtgofolmekgjkjaaProg.lean LOADS. Nothing in Lean hashes anything: it is a label: what it is worth is what the hold of that sum in a sandbox is worth. -/
noncomputable def Try.pinned : Pinned := { name := "ytgofolmekgjkjaa", sum := "4949d57b335ef49f1cd560e680f798640392c6e64cbec719d45559b84a834804", checked := Try.checked }
namespace Rows
def none {H : Type} : Left H := { results := [], args := [] }

/-- 'laws.FnExactPairKey': WHATEVER THE INPUT: true; the input reads as it did. -/
def fnExactPairKeySpec : ChangeSpec := { name := "fnExactPairKey", fn := fun _ => fun
  | [d1, d2, d3] => { results := [.lit (.bool true)], args := [d1, d2, d3] }
  | _ => none }
def fnExactPairKeyRow : OpenClaim := { program := "ytgofolmekgjkjaa", sum := "4949d57b335ef49f1cd560e680f798640392c6e64cbec719d45559b84a834804", func := "loop.example/g01174/laws.FnExactPairKey", spec := "fnExactPairKey", apart := false }
def FnExactPairKeySaid : Prop := fnExactPairKeyRow.holds Try.pinned (OpenSpec.ofChange fnExactPairKeySpec)

/-- ITS FALSE NEIGHBOUR: 'it returns false'. Refute it at one input. -/
def fnExactPairKeyWrong : ChangeSpec := { name := "fnExactPairKey", fn := fun _ => fun
  | [d1, d2, d3] => { results := [.lit (.bool false)], args := [d1, d2, d3] }
  | _ => none }
def FnExactPairKeyWrongFalsely : Prop := fnExactPairKeyRow.holds Try.pinned (OpenSpec.ofChange fnExactPairKeyWrong)

/-- 'laws.FnExactNodeKey': WHATEVER THE INPUT: true; the input reads as it did. -/
def fnExactNodeKeySpec : ChangeSpec := { name := "fnExactNodeKey", fn := fun _ => fun
  | [d1, d2] => { results := [.lit (.bool true)], args := [d1, d2] }
  | _ => none }
def fnExactNodeKeyRow : OpenClaim := { program := "ytgofolmekgjkjaa", sum := "4949d57b335ef49f1cd560e680f798640392c6e64cbec719d45559b84a834804", func := "loop.example/g01174/laws.FnExactNodeKey", spec := "fnExactNodeKey", apart := false }
def FnExactNodeKeySaid : Prop := fnExactNodeKeyRow.holds Try.pinned (OpenSpec.ofChange fnExactNodeKeySpec)

/-- ITS FALSE NEIGHBOUR: 'it returns false'. Refute it at one input. -/
def fnExactNodeKeyWrong : ChangeSpec := { name := "fnExactNodeKey", fn := fun _ => fun
  | [d1, d2] => { results := [.lit (.bool false)], args := [d1, d2] }
  | _ => none }
def FnExactNodeKeyWrongFalsely : Prop := fnExactNodeKeyRow.holds Try.pinned (OpenSpec.ofChange fnExactNodeKeyWrong)

/-- 'laws.FnExactHashOf': WHATEVER THE INPUT: true; the input reads as it did. -/
def fnExactHashOfSpec : ChangeSpec := { name := "fnExactHashOf", fn := fun _ => fun
  | [d1, d2] => { results := [.lit (.bool true)], args := [d1, d2] }
  | _ => none }
def fnExactHashOfRow : OpenClaim := { program := "ytgofolmekgjkjaa", sum := "4949d57b335ef49f1cd560e680f798640392c6e64cbec719d45559b84a834804", func := "loop.example/g01174/laws.FnExactHashOf", spec := "fnExactHashOf", apart := false }
def FnExactHashOfSaid : Prop := fnExactHashOfRow.holds Try.pinned (OpenSpec.ofChange fnExactHashOfSpec)

/-- ITS FALSE NEIGHBOUR: 'it returns false'. Refute it at one input. -/
def fnExactHashOfWrong : ChangeSpec := { name := "fnExactHashOf", fn := fun _ => fun
  | [d1, d2] => { results := [.lit (.bool false)], args := [d1, d2] }
  | _ => none }
def FnExactHashOfWrongFalsely : Prop := fnExactHashOfRow.holds Try.pinned (OpenSpec.ofChange fnExactHashOfWrong)

/-- 'laws.FnExactChunkKey': WHATEVER THE INPUT: true; the input reads as it did. -/
def fnExactChunkKeySpec : ChangeSpec := { name := "fnExactChunkKey", fn := fun _ => fun
  | [d] => { results := [.lit (.bool true)], args := [d] }
  | _ => none }
def fnExactChunkKeyRow : OpenClaim := { program := "ytgofolmekgjkjaa", sum := "4949d57b335ef49f1cd560e680f798640392c6e64cbec719d45559b84a834804", func := "loop.example/g01174/laws.FnExactChunkKey", spec := "fnExactChunkKey", apart := false }
def FnExactChunkKeySaid : Prop := fnExactChunkKeyRow.holds Try.pinned (OpenSpec.ofChange fnExactChunkKeySpec)

/-- ITS FALSE NEIGHBOUR: 'it returns false'. Refute it at one input. -/
def fnExactChunkKeyWrong : ChangeSpec := { name := "fnExactChunkKey", fn := fun _ => fun
  | [d] => { results := [.lit (.bool false)], args := [d] }
  | _ => none }
def FnExactChunkKeyWrongFalsely : Prop := fnExactChunkKeyRow.holds Try.pinned (OpenSpec.ofChange fnExactChunkKeyWrong)

/-- 'laws.FnExactFeedHasher': WHATEVER THE INPUT: true; the input reads as it did. -/
def fnExactFeedHasherSpec : ChangeSpec := { name := "fnExactFeedHasher", fn := fun _ => fun
  | [d1, d2] => { results := [.lit (.bool true)], args := [d1, d2] }
  | _ => none }
def fnExactFeedHasherRow : OpenClaim := { program := "ytgofolmekgjkjaa", sum := "4949d57b335ef49f1cd560e680f798640392c6e64cbec719d45559b84a834804", func := "loop.example/g01174/laws.FnExactFeedHasher", spec := "fnExactFeedHasher", apart := false }
def FnExactFeedHasherSaid : Prop := fnExactFeedHasherRow.holds Try.pinned (OpenSpec.ofChange fnExactFeedHasherSpec)

/-- ITS FALSE NEIGHBOUR: 'it returns false'. Refute it at one input. -/
def fnExactFeedHasherWrong : ChangeSpec := { name := "fnExactFeedHasher", fn := fun _ => fun
  | [d1, d2] => { results := [.lit (.bool false)], args := [d1, d2] }
  | _ => none }
def FnExactFeedHasherWrongFalsely : Prop := fnExactFeedHasherRow.holds Try.pinned (OpenSpec.ofChange fnExactFeedHasherWrong)

/-- 'laws.FnExactKeyOf': WHATEVER THE INPUT: true; the input reads as it did. -/
def fnExactKeyOfSpec : ChangeSpec := { name := "fnExactKeyOf", fn := fun _ => fun
  | [d] => { results := [.lit (.bool true)], args := [d] }
  | _ => none }
def fnExactKeyOfRow : OpenClaim := { program := "ytgofolmekgjkjaa", sum := "4949d57b335ef49f1cd560e680f798640392c6e64cbec719d45559b84a834804", func := "loop.example/g01174/laws.FnExactKeyOf", spec := "fnExactKeyOf", apart := false }
def FnExactKeyOfSaid : Prop := fnExactKeyOfRow.holds Try.pinned (OpenSpec.ofChange fnExactKeyOfSpec)

/-- ITS FALSE NEIGHBOUR: 'it returns false'. Refute it at one input. -/
def fnExactKeyOfWrong : ChangeSpec := { name := "fnExactKeyOf", fn := fun _ => fun
  | [d] => { results := [.lit (.bool false)], args := [d] }
  | _ => none }
def FnExactKeyOfWrongFalsely : Prop := fnExactKeyOfRow.holds Try.pinned (OpenSpec.ofChange fnExactKeyOfWrong)

/-- 'laws.FnExactListKey': WHATEVER THE INPUT: true; the input reads as it did. -/
def fnExactListKeySpec : ChangeSpec := { name := "fnExactListKey", fn := fun _ => fun
  | [d] => { results := [.lit (.bool true)], args := [d] }
  | _ => none }
def fnExactListKeyRow : OpenClaim := { program := "ytgofolmekgjkjaa", sum := "4949d57b335ef49f1cd560e680f798640392c6e64cbec719d45559b84a834804", func := "loop.example/g01174/laws.FnExactListKey", spec := "fnExactListKey", recurses := true, apart := false }
def FnExactListKeySaid : Prop := fnExactListKeyRow.holds Try.pinned (OpenSpec.ofChange fnExactListKeySpec)

/-- ITS FALSE NEIGHBOUR: 'it returns false'. Refute it at one input. -/
def fnExactListKeyWrong : ChangeSpec := { name := "fnExactListKey", fn := fun _ => fun
  | [d] => { results := [.lit (.bool false)], args := [d] }
  | _ => none }
def FnExactListKeyWrongFalsely : Prop := fnExactListKeyRow.holds Try.pinned (OpenSpec.ofChange fnExactListKeyWrong)

/-- 'laws.FnExactCheckProof': WHATEVER THE INPUT: true; the input reads as it did. -/
def fnExactCheckProofSpec : ChangeSpec := { name := "fnExactCheckProof", fn := fun _ => fun
  | [d1, d2, d3, d4, d5] => { results := [.lit (.bool true)], args := [d1, d2, d3, d4, d5] }
  | _ => none }
def fnExactCheckProofRow : OpenClaim := { program := "ytgofolmekgjkjaa", sum := "4949d57b335ef49f1cd560e680f798640392c6e64cbec719d45559b84a834804", func := "loop.example/g01174/laws.FnExactCheckProof", spec := "fnExactCheckProof", recurses := true, apart := false }
def FnExactCheckProofSaid : Prop := fnExactCheckProofRow.holds Try.pinned (OpenSpec.ofChange fnExactCheckProofSpec)

/-- ITS FALSE NEIGHBOUR: 'it returns false'. Refute it at one input. -/
def fnExactCheckProofWrong : ChangeSpec := { name := "fnExactCheckProof", fn := fun _ => fun
  | [d1, d2, d3, d4, d5] => { results := [.lit (.bool false)], args := [d1, d2, d3, d4, d5] }
  | _ => none }
def FnExactCheckProofWrongFalsely : Prop := fnExactCheckProofRow.holds Try.pinned (OpenSpec.ofChange fnExactCheckProofWrong)

/-- 'laws.FnExactRangeProof': WHATEVER THE INPUT: true; the input reads as it did. -/
def fnExactRangeProofSpec : ChangeSpec := { name := "fnExactRangeProof", fn := fun _ => fun
  | [d1, d2, d3] => { results := [.lit (.bool true)], args := [d1, d2, d3] }
  | _ => none }
def fnExactRangeProofRow : OpenClaim := { program := "ytgofolmekgjkjaa", sum := "4949d57b335ef49f1cd560e680f798640392c6e64cbec719d45559b84a834804", func := "loop.example/g01174/laws.FnExactRangeProof", spec := "fnExactRangeProof", recurses := true, apart := false }
def FnExactRangeProofSaid : Prop := fnExactRangeProofRow.holds Try.pinned (OpenSpec.ofChange fnExactRangeProofSpec)

/-- ITS FALSE NEIGHBOUR: 'it returns false'. Refute it at one input. -/
def fnExactRangeProofWrong : ChangeSpec := { name := "fnExactRangeProof", fn := fun _ => fun
  | [d1, d2, d3] => { results := [.lit (.bool false)], args := [d1, d2, d3] }
  | _ => none }
def FnExactRangeProofWrongFalsely : Prop := fnExactRangeProofRow.holds Try.pinned (OpenSpec.ofChange fnExactRangeProofWrong)

/-- 'laws.FnExactProofOf': WHATEVER THE INPUT: true; the input reads as it did. -/
def fnExactProofOfSpec : ChangeSpec := { name := "fnExactProofOf", fn := fun _ => fun
  | [d1, d2] => { results := [.lit (.bool true)], args := [d1, d2] }
  | _ => none }
def fnExactProofOfRow : OpenClaim := { program := "ytgofolmekgjkjaa", sum := "4949d57b335ef49f1cd560e680f798640392c6e64cbec719d45559b84a834804", func := "loop.example/g01174/laws.FnExactProofOf", spec := "fnExactProofOf", recurses := true, apart := false }
def FnExactProofOfSaid : Prop := fnExactProofOfRow.holds Try.pinned (OpenSpec.ofChange fnExactProofOfSpec)

/-- ITS FALSE NEIGHBOUR: 'it returns false'. Refute it at one input. -/
def fnExactProofOfWrong : ChangeSpec := { name := "fnExactProofOf", fn := fun _ => fun
  | [d1, d2] => { results := [.lit (.bool false)], args := [d1, d2] }
  | _ => none }
def FnExactProofOfWrongFalsely : Prop := fnExactProofOfRow.holds Try.pinned (OpenSpec.ofChange fnExactProofOfWrong)

/-- 'laws.FnExactAddLeaf': WHATEVER THE INPUT: true; the input reads as it did. -/
def fnExactAddLeafSpec : ChangeSpec := { name := "fnExactAddLeaf", fn := fun _ => fun
  | [d1, d2, d3] => { results := [.lit (.bool true)], args := [d1, d2, d3] }
  | _ => none }
def fnExactAddLeafRow : OpenClaim := { program := "ytgofolmekgjkjaa", sum := "4949d57b335ef49f1cd560e680f798640392c6e64cbec719d45559b84a834804", func := "loop.example/g01174/laws.FnExactAddLeaf", spec := "fnExactAddLeaf", apart := false }
def FnExactAddLeafSaid : Prop := fnExactAddLeafRow.holds Try.pinned (OpenSpec.ofChange fnExactAddLeafSpec)

/-- ITS FALSE NEIGHBOUR: 'it returns false'. Refute it at one input. -/
def fnExactAddLeafWrong : ChangeSpec := { name := "fnExactAddLeaf", fn := fun _ => fun
  | [d1, d2, d3] => { results := [.lit (.bool false)], args := [d1, d2, d3] }
  | _ => none }
def FnExactAddLeafWrongFalsely : Prop := fnExactAddLeafRow.holds Try.pinned (OpenSpec.ofChange fnExactAddLeafWrong)

/-- 'laws.FnExactPeaksOf': WHATEVER THE INPUT: true; the input reads as it did. -/
def fnExactPeaksOfSpec : ChangeSpec := { name := "fnExactPeaksOf", fn := fun _ => fun
  | [d] => { results := [.lit (.bool true)], args := [d] }
  | _ => none }
def fnExactPeaksOfRow : OpenClaim := { program := "ytgofolmekgjkjaa", sum := "4949d57b335ef49f1cd560e680f798640392c6e64cbec719d45559b84a834804", func := "loop.example/g01174/laws.FnExactPeaksOf", spec := "fnExactPeaksOf", recurses := true, apart := false }
def FnExactPeaksOfSaid : Prop := fnExactPeaksOfRow.holds Try.pinned (OpenSpec.ofChange fnExactPeaksOfSpec)

/-- ITS FALSE NEIGHBOUR: 'it returns false'. Refute it at one input. -/
def fnExactPeaksOfWrong : ChangeSpec := { name := "fnExactPeaksOf", fn := fun _ => fun
  | [d] => { results := [.lit (.bool false)], args := [d] }
  | _ => none }
def FnExactPeaksOfWrongFalsely : Prop := fnExactPeaksOfRow.holds Try.pinned (OpenSpec.ofChange fnExactPeaksOfWrong)

/- THE SECOND FORM. 'bulk': how many values and letters a reading holds, each counted each time it is reached (what is shared counts as often as it is met; a slice's spare places count too). A statement '..UptoSaid' is the law's where the arguments, and the package variables that the reading takes, are together of bulk at most 1048576: NARROWER than '..Said'. Prove '..Said' where nothing that the law and all that it calls make is longer than what came in: it says more and counts as full. Else prove '..UptoSaid'. A law counts once. -/
mutual
def uptoBulk {H : Type} : DataW H → Nat
  | .lit (.string bytes) => bytes.length + 1
  | .lit _ => 1
  | .nil => 1
  | .ptr d => uptoBulk d + 1
  | .slice elems spare => uptoBulkAll elems + uptoBulkAll spare + 1
  | .agg parts => uptoBulkAll parts + 1
  | .iface _ d => uptoBulk d + 1
  | .map entries => uptoBulkEntries entries + 1
  | .held _ => 1
def uptoBulkAll {H : Type} : List (DataW H) → Nat
  | [] => 0
  | d :: r => uptoBulk d + uptoBulkAll r
def uptoBulkEntries {H : Type} : List (Lit × DataW H) → Nat
  | [] => 0
  | x :: r => uptoBulkEntry x + uptoBulkEntries r
def uptoBulkEntry {H : Type} : Lit × DataW H → Nat
  | (.string bytes, d) => bytes.length + uptoBulk d + 1
  | (_, d) => uptoBulk d + 1
 end
def uptoSmall : (H : Type) → List (DataW H) → Bool := fun _ ds => decide (uptoBulkAll ds ≤ 1048576)
def OpenSpec.upto (s : _root_.Go.ChangeSpec) : _root_.Go.OpenSpec := { _root_.Go.OpenSpec.ofChange s with cond := some uptoSmall }

/-- 'laws.FnExactPairKey', WHERE WHAT IT READS IS OF BULK AT MOST 1048576: true; the input reads as it did. -/
def fnExactPairKeyUptoRow : OpenClaim := { program := "ytgofolmekgjkjaa", sum := "4949d57b335ef49f1cd560e680f798640392c6e64cbec719d45559b84a834804", func := "loop.example/g01174/laws.FnExactPairKey", spec := "fnExactPairKey", apart := false, narrowed := true }
def FnExactPairKeyUptoSaid : Prop := fnExactPairKeyUptoRow.holds Try.pinned (OpenSpec.upto fnExactPairKeySpec)

/-- 'laws.FnExactNodeKey', WHERE WHAT IT READS IS OF BULK AT MOST 1048576: true; the input reads as it did. -/
def fnExactNodeKeyUptoRow : OpenClaim := { program := "ytgofolmekgjkjaa", sum := "4949d57b335ef49f1cd560e680f798640392c6e64cbec719d45559b84a834804", func := "loop.example/g01174/laws.FnExactNodeKey", spec := "fnExactNodeKey", apart := false, narrowed := true }
def FnExactNodeKeyUptoSaid : Prop := fnExactNodeKeyUptoRow.holds Try.pinned (OpenSpec.upto fnExactNodeKeySpec)

/-- 'laws.FnExactHashOf', WHERE WHAT IT READS IS OF BULK AT MOST 1048576: true; the input reads as it did. -/
def fnExactHashOfUptoRow : OpenClaim := { program := "ytgofolmekgjkjaa", sum := "4949d57b335ef49f1cd560e680f798640392c6e64cbec719d45559b84a834804", func := "loop.example/g01174/laws.FnExactHashOf", spec := "fnExactHashOf", apart := false, narrowed := true }
def FnExactHashOfUptoSaid : Prop := fnExactHashOfUptoRow.holds Try.pinned (OpenSpec.upto fnExactHashOfSpec)

/-- 'laws.FnExactChunkKey', WHERE WHAT IT READS IS OF BULK AT MOST 1048576: true; the input reads as it did. -/
def fnExactChunkKeyUptoRow : OpenClaim := { program := "ytgofolmekgjkjaa", sum := "4949d57b335ef49f1cd560e680f798640392c6e64cbec719d45559b84a834804", func := "loop.example/g01174/laws.FnExactChunkKey", spec := "fnExactChunkKey", apart := false, narrowed := true }
def FnExactChunkKeyUptoSaid : Prop := fnExactChunkKeyUptoRow.holds Try.pinned (OpenSpec.upto fnExactChunkKeySpec)

/-- 'laws.FnExactFeedHasher', WHERE WHAT IT READS IS OF BULK AT MOST 1048576: true; the input reads as it did. -/
def fnExactFeedHasherUptoRow : OpenClaim := { program := "ytgofolmekgjkjaa", sum := "4949d57b335ef49f1cd560e680f798640392c6e64cbec719d45559b84a834804", func := "loop.example/g01174/laws.FnExactFeedHasher", spec := "fnExactFeedHasher", apart := false, narrowed := true }
def FnExactFeedHasherUptoSaid : Prop := fnExactFeedHasherUptoRow.holds Try.pinned (OpenSpec.upto fnExactFeedHasherSpec)

/-- 'laws.FnExactKeyOf', WHERE WHAT IT READS IS OF BULK AT MOST 1048576: true; the input reads as it did. -/
def fnExactKeyOfUptoRow : OpenClaim := { program := "ytgofolmekgjkjaa", sum := "4949d57b335ef49f1cd560e680f798640392c6e64cbec719d45559b84a834804", func := "loop.example/g01174/laws.FnExactKeyOf", spec := "fnExactKeyOf", apart := false, narrowed := true }
def FnExactKeyOfUptoSaid : Prop := fnExactKeyOfUptoRow.holds Try.pinned (OpenSpec.upto fnExactKeyOfSpec)

/-- 'laws.FnExactListKey', WHERE WHAT IT READS IS OF BULK AT MOST 1048576: true; the input reads as it did. -/
def fnExactListKeyUptoRow : OpenClaim := { program := "ytgofolmekgjkjaa", sum := "4949d57b335ef49f1cd560e680f798640392c6e64cbec719d45559b84a834804", func := "loop.example/g01174/laws.FnExactListKey", spec := "fnExactListKey", recurses := true, apart := false, narrowed := true }
def FnExactListKeyUptoSaid : Prop := fnExactListKeyUptoRow.holds Try.pinned (OpenSpec.upto fnExactListKeySpec)

/-- 'laws.FnExactCheckProof', WHERE WHAT IT READS IS OF BULK AT MOST 1048576: true; the input reads as it did. -/
def fnExactCheckProofUptoRow : OpenClaim := { program := "ytgofolmekgjkjaa", sum := "4949d57b335ef49f1cd560e680f798640392c6e64cbec719d45559b84a834804", func := "loop.example/g01174/laws.FnExactCheckProof", spec := "fnExactCheckProof", recurses := true, apart := false, narrowed := true }
def FnExactCheckProofUptoSaid : Prop := fnExactCheckProofUptoRow.holds Try.pinned (OpenSpec.upto fnExactCheckProofSpec)

/-- 'laws.FnExactRangeProof', WHERE WHAT IT READS IS OF BULK AT MOST 1048576: true; the input reads as it did. -/
def fnExactRangeProofUptoRow : OpenClaim := { program := "ytgofolmekgjkjaa", sum := "4949d57b335ef49f1cd560e680f798640392c6e64cbec719d45559b84a834804", func := "loop.example/g01174/laws.FnExactRangeProof", spec := "fnExactRangeProof", recurses := true, apart := false, narrowed := true }
def FnExactRangeProofUptoSaid : Prop := fnExactRangeProofUptoRow.holds Try.pinned (OpenSpec.upto fnExactRangeProofSpec)

/-- 'laws.FnExactProofOf', WHERE WHAT IT READS IS OF BULK AT MOST 1048576: true; the input reads as it did. -/
def fnExactProofOfUptoRow : OpenClaim := { program := "ytgofolmekgjkjaa", sum := "4949d57b335ef49f1cd560e680f798640392c6e64cbec719d45559b84a834804", func := "loop.example/g01174/laws.FnExactProofOf", spec := "fnExactProofOf", recurses := true, apart := false, narrowed := true }
def FnExactProofOfUptoSaid : Prop := fnExactProofOfUptoRow.holds Try.pinned (OpenSpec.upto fnExactProofOfSpec)

/-- 'laws.FnExactAddLeaf', WHERE WHAT IT READS IS OF BULK AT MOST 1048576: true; the input reads as it did. -/
def fnExactAddLeafUptoRow : OpenClaim := { program := "ytgofolmekgjkjaa", sum := "4949d57b335ef49f1cd560e680f798640392c6e64cbec719d45559b84a834804", func := "loop.example/g01174/laws.FnExactAddLeaf", spec := "fnExactAddLeaf", apart := false, narrowed := true }
def FnExactAddLeafUptoSaid : Prop := fnExactAddLeafUptoRow.holds Try.pinned (OpenSpec.upto fnExactAddLeafSpec)

/-- 'laws.FnExactPeaksOf', WHERE WHAT IT READS IS OF BULK AT MOST 1048576: true; the input reads as it did. -/
def fnExactPeaksOfUptoRow : OpenClaim := { program := "ytgofolmekgjkjaa", sum := "4949d57b335ef49f1cd560e680f798640392c6e64cbec719d45559b84a834804", func := "loop.example/g01174/laws.FnExactPeaksOf", spec := "fnExactPeaksOf", recurses := true, apart := false, narrowed := true }
def FnExactPeaksOfUptoSaid : Prop := fnExactPeaksOfUptoRow.holds Try.pinned (OpenSpec.upto fnExactPeaksOfSpec)

end Rows
end Go.Proofs.Ytgofolmekgjkjaa
