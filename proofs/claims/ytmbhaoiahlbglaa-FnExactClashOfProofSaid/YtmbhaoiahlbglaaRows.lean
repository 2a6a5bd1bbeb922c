/-
  No cell of these rows narrows 'for every input' (looked for: loops, veiled, ifaces, maps, wideKeys, modest, calm, conditions, laid).
  DERIVED. THE GIVEN ROWS OF THIS SEAT. 10 by the template 'for every input the law returns true; each argument reads behind the call as it read before'; 0 by the template 'total and deterministic' (their statements: YtmbhaoiahlbglaaTotals.lean).
  GIVEN WITH THE SEED: the statements are not yours to turn. If you find one false, say at which input.
  Laid BY PROGRAM, IN A SANDBOX (cutbox-rows.mjs): the forced cells as the released guide's own fill.sh prints them over the translation ba92cf56cfdae51a… (all of the seat's roots in one cut). By AI agents, Wed Nov 11 2026. No macro, syntax, notation, axiom, sorry.
-/
import Derived.Test.YtmbhaoiahlbglaaChecked
import GoSem.Claim
import GoSem.ClaimJoined
import GoSem.ClaimMapViews
import Derived.JoinedTies
import Derived.KernelRfl
namespace Go.Proofs.Ytmbhaoiahlbglaa
/- THE CELL 'sum', in the pinned program and in every row, IS THE sha256 OF THE DUMP (.gsa) THAT YtmbhaoiahlbglaaProg.lean LOADS. Nothing in Lean hashes anything: it is a label: what it is worth is what the hold of that sum in a sandbox is worth. -/
noncomputable def Try.pinned : Pinned := { name := "ytmbhaoiahlbglaa", sum := "ba92cf56cfdae51a13737d80a463a492d591368700afb43f5138c6a9272eeac9", checked := Try.checked }
namespace Rows
def none {H : Type} : Left H := { results := [], args := [] }

/-- 'laws.FnExactClashOf': WHATEVER THE INPUT: true; the input reads as it did. -/
def fnExactClashOfSpec : ChangeSpec := { name := "fnExactClashOf", fn := fun _ => fun
  | [d1, d2] => { results := [.lit (.bool true)], args := [d1, d2] }
  | _ => none }
def fnExactClashOfRow : OpenClaim := { program := "ytmbhaoiahlbglaa", sum := "ba92cf56cfdae51a13737d80a463a492d591368700afb43f5138c6a9272eeac9", func := "loop.example/g01174/laws.FnExactClashOf", spec := "fnExactClashOf", recurses := true, plainKeys := false, apart := false }
def FnExactClashOfSaid : Prop := fnExactClashOfRow.holds Try.pinned (OpenSpec.ofChange fnExactClashOfSpec)

/-- ITS FALSE NEIGHBOUR: 'it returns false'. Refute it at one input. -/
def fnExactClashOfWrong : ChangeSpec := { name := "fnExactClashOf", fn := fun _ => fun
  | [d1, d2] => { results := [.lit (.bool false)], args := [d1, d2] }
  | _ => none }
def FnExactClashOfWrongFalsely : Prop := fnExactClashOfRow.holds Try.pinned (OpenSpec.ofChange fnExactClashOfWrong)

/-- 'laws.FnExactKeyOfPeaks': WHATEVER THE INPUT: true; the input reads as it did. -/
def fnExactKeyOfPeaksSpec : ChangeSpec := { name := "fnExactKeyOfPeaks", fn := fun _ => fun
  | [d1, d2] => { results := [.lit (.bool true)], args := [d1, d2] }
  | _ => none }
def fnExactKeyOfPeaksRow : OpenClaim := { program := "ytmbhaoiahlbglaa", sum := "ba92cf56cfdae51a13737d80a463a492d591368700afb43f5138c6a9272eeac9", func := "loop.example/g01174/laws.FnExactKeyOfPeaks", spec := "fnExactKeyOfPeaks", recurses := true, plainKeys := false, apart := false }
def FnExactKeyOfPeaksSaid : Prop := fnExactKeyOfPeaksRow.holds Try.pinned (OpenSpec.ofChange fnExactKeyOfPeaksSpec)

/-- ITS FALSE NEIGHBOUR: 'it returns false'. Refute it at one input. -/
def fnExactKeyOfPeaksWrong : ChangeSpec := { name := "fnExactKeyOfPeaks", fn := fun _ => fun
  | [d1, d2] => { results := [.lit (.bool false)], args := [d1, d2] }
  | _ => none }
def FnExactKeyOfPeaksWrongFalsely : Prop := fnExactKeyOfPeaksRow.holds Try.pinned (OpenSpec.ofChange fnExactKeyOfPeaksWrong)

/-- 'laws.FnExactGrowthProof': WHATEVER THE INPUT: true; the input reads as it did. -/
def fnExactGrowthProofSpec : ChangeSpec := { name := "fnExactGrowthProof", fn := fun _ => fun
  | [d1, d2] => { results := [.lit (.bool true)], args := [d1, d2] }
  | _ => none }
def fnExactGrowthProofRow : OpenClaim := { program := "ytmbhaoiahlbglaa", sum := "ba92cf56cfdae51a13737d80a463a492d591368700afb43f5138c6a9272eeac9", func := "loop.example/g01174/laws.FnExactGrowthProof", spec := "fnExactGrowthProof", recurses := true, plainKeys := false, apart := false }
def FnExactGrowthProofSaid : Prop := fnExactGrowthProofRow.holds Try.pinned (OpenSpec.ofChange fnExactGrowthProofSpec)

/-- ITS FALSE NEIGHBOUR: 'it returns false'. Refute it at one input. -/
def fnExactGrowthProofWrong : ChangeSpec := { name := "fnExactGrowthProof", fn := fun _ => fun
  | [d1, d2] => { results := [.lit (.bool false)], args := [d1, d2] }
  | _ => none }
def FnExactGrowthProofWrongFalsely : Prop := fnExactGrowthProofRow.holds Try.pinned (OpenSpec.ofChange fnExactGrowthProofWrong)

/-- 'laws.FnExactClashOfProof': WHATEVER THE INPUT: true; the input reads as it did. -/
def fnExactClashOfProofSpec : ChangeSpec := { name := "fnExactClashOfProof", fn := fun _ => fun
  | [d1, d2, d3, d4] => { results := [.lit (.bool true)], args := [d1, d2, d3, d4] }
  | _ => none }
def fnExactClashOfProofRow : OpenClaim := { program := "ytmbhaoiahlbglaa", sum := "ba92cf56cfdae51a13737d80a463a492d591368700afb43f5138c6a9272eeac9", func := "loop.example/g01174/laws.FnExactClashOfProof", spec := "fnExactClashOfProof", recurses := true, plainKeys := false, apart := false }
def FnExactClashOfProofSaid : Prop := fnExactClashOfProofRow.holds Try.pinned (OpenSpec.ofChange fnExactClashOfProofSpec)

/-- ITS FALSE NEIGHBOUR: 'it returns false'. Refute it at one input. -/
def fnExactClashOfProofWrong : ChangeSpec := { name := "fnExactClashOfProof", fn := fun _ => fun
  | [d1, d2, d3, d4] => { results := [.lit (.bool false)], args := [d1, d2, d3, d4] }
  | _ => none }
def FnExactClashOfProofWrongFalsely : Prop := fnExactClashOfProofRow.holds Try.pinned (OpenSpec.ofChange fnExactClashOfProofWrong)

/-- 'laws.FnExactFindKey': WHATEVER THE INPUT: true; the input reads as it did. -/
def fnExactFindKeySpec : ChangeSpec := { name := "fnExactFindKey", fn := fun _ => fun
  | [d1, d2] => { results := [.lit (.bool true)], args := [d1, d2] }
  | _ => none }
def fnExactFindKeyRow : OpenClaim := { program := "ytmbhaoiahlbglaa", sum := "ba92cf56cfdae51a13737d80a463a492d591368700afb43f5138c6a9272eeac9", func := "loop.example/g01174/laws.FnExactFindKey", spec := "fnExactFindKey", inPlace := ["internal/bytealg.IndexByteString"], unfollowed := true, recurses := true, plainKeys := false, apart := false }
def FnExactFindKeySaid : Prop := fnExactFindKeyRow.holds Try.pinned (OpenSpec.ofChange fnExactFindKeySpec)

/-- ITS FALSE NEIGHBOUR: 'it returns false'. Refute it at one input. -/
def fnExactFindKeyWrong : ChangeSpec := { name := "fnExactFindKey", fn := fun _ => fun
  | [d1, d2] => { results := [.lit (.bool false)], args := [d1, d2] }
  | _ => none }
def FnExactFindKeyWrongFalsely : Prop := fnExactFindKeyRow.holds Try.pinned (OpenSpec.ofChange fnExactFindKeyWrong)

/-- 'laws.FnExactSortKeys': WHATEVER THE INPUT: true; the input reads as it did. -/
def fnExactSortKeysSpec : ChangeSpec := { name := "fnExactSortKeys", fn := fun _ => fun
  | [d] => { results := [.lit (.bool true)], args := [d] }
  | _ => none }
def fnExactSortKeysRow : OpenClaim := { program := "ytmbhaoiahlbglaa", sum := "ba92cf56cfdae51a13737d80a463a492d591368700afb43f5138c6a9272eeac9", func := "loop.example/g01174/laws.FnExactSortKeys", spec := "fnExactSortKeys", unfollowed := true, recurses := true, plainKeys := false, apart := false }
def FnExactSortKeysSaid : Prop := fnExactSortKeysRow.holds Try.pinned (OpenSpec.ofChange fnExactSortKeysSpec)

/-- ITS FALSE NEIGHBOUR: 'it returns false'. Refute it at one input. -/
def fnExactSortKeysWrong : ChangeSpec := { name := "fnExactSortKeys", fn := fun _ => fun
  | [d] => { results := [.lit (.bool false)], args := [d] }
  | _ => none }
def FnExactSortKeysWrongFalsely : Prop := fnExactSortKeysRow.holds Try.pinned (OpenSpec.ofChange fnExactSortKeysWrong)

/-- 'laws.FnExactNearestKeys': WHATEVER THE INPUT: true; the input reads as it did. -/
def fnExactNearestKeysSpec : ChangeSpec := { name := "fnExactNearestKeys", fn := fun _ => fun
  | [d1, d2, d3] => { results := [.lit (.bool true)], args := [d1, d2, d3] }
  | _ => none }
def fnExactNearestKeysRow : OpenClaim := { program := "ytmbhaoiahlbglaa", sum := "ba92cf56cfdae51a13737d80a463a492d591368700afb43f5138c6a9272eeac9", func := "loop.example/g01174/laws.FnExactNearestKeys", spec := "fnExactNearestKeys", unfollowed := true, recurses := true, plainKeys := false, apart := false }
def FnExactNearestKeysSaid : Prop := fnExactNearestKeysRow.holds Try.pinned (OpenSpec.ofChange fnExactNearestKeysSpec)

/-- ITS FALSE NEIGHBOUR: 'it returns false'. Refute it at one input. -/
def fnExactNearestKeysWrong : ChangeSpec := { name := "fnExactNearestKeys", fn := fun _ => fun
  | [d1, d2, d3] => { results := [.lit (.bool false)], args := [d1, d2, d3] }
  | _ => none }
def FnExactNearestKeysWrongFalsely : Prop := fnExactNearestKeysRow.holds Try.pinned (OpenSpec.ofChange fnExactNearestKeysWrong)

/-- 'laws.FnExactShortestPrefix': WHATEVER THE INPUT: true; the input reads as it did. -/
def fnExactShortestPrefixSpec : ChangeSpec := { name := "fnExactShortestPrefix", fn := fun _ => fun
  | [d1, d2] => { results := [.lit (.bool true)], args := [d1, d2] }
  | _ => none }
def fnExactShortestPrefixRow : OpenClaim := { program := "ytmbhaoiahlbglaa", sum := "ba92cf56cfdae51a13737d80a463a492d591368700afb43f5138c6a9272eeac9", func := "loop.example/g01174/laws.FnExactShortestPrefix", spec := "fnExactShortestPrefix", unfollowed := true, recurses := true, plainKeys := false, apart := false }
def FnExactShortestPrefixSaid : Prop := fnExactShortestPrefixRow.holds Try.pinned (OpenSpec.ofChange fnExactShortestPrefixSpec)

/-- ITS FALSE NEIGHBOUR: 'it returns false'. Refute it at one input. -/
def fnExactShortestPrefixWrong : ChangeSpec := { name := "fnExactShortestPrefix", fn := fun _ => fun
  | [d1, d2] => { results := [.lit (.bool false)], args := [d1, d2] }
  | _ => none }
def FnExactShortestPrefixWrongFalsely : Prop := fnExactShortestPrefixRow.holds Try.pinned (OpenSpec.ofChange fnExactShortestPrefixWrong)

/-- 'laws.FnExactMissingFor': WHATEVER THE INPUT: true; the input reads as it did. -/
def fnExactMissingForSpec : ChangeSpec := { name := "fnExactMissingFor", fn := fun _ => fun
  | [d1, d2] => { results := [.lit (.bool true)], args := [d1, d2] }
  | _ => none }
def fnExactMissingForRow : OpenClaim := { program := "ytmbhaoiahlbglaa", sum := "ba92cf56cfdae51a13737d80a463a492d591368700afb43f5138c6a9272eeac9", func := "loop.example/g01174/laws.FnExactMissingFor", spec := "fnExactMissingFor", unfollowed := true, recurses := true, plainKeys := false, apart := false }
def FnExactMissingForSaid : Prop := fnExactMissingForRow.holds Try.pinned (OpenSpec.ofChange fnExactMissingForSpec)

/-- ITS FALSE NEIGHBOUR: 'it returns false'. Refute it at one input. -/
def fnExactMissingForWrong : ChangeSpec := { name := "fnExactMissingFor", fn := fun _ => fun
  | [d1, d2] => { results := [.lit (.bool false)], args := [d1, d2] }
  | _ => none }
def FnExactMissingForWrongFalsely : Prop := fnExactMissingForRow.holds Try.pinned (OpenSpec.ofChange fnExactMissingForWrong)

/-- 'laws.FnExactBuildFrom': WHATEVER THE INPUT: true; the input reads as it did. -/
def fnExactBuildFromSpec : ChangeSpec := { name := "fnExactBuildFrom", fn := fun _ => fun
  | [d1, d2] => { results := [.lit (.bool true)], args := [d1, d2] }
  | _ => none }
def fnExactBuildFromRow : OpenClaim := { program := "ytmbhaoiahlbglaa", sum := "ba92cf56cfdae51a13737d80a463a492d591368700afb43f5138c6a9272eeac9", func := "loop.example/g01174/laws.FnExactBuildFrom", spec := "fnExactBuildFrom", plainKeys := false, apart := false }
def FnExactBuildFromSaid : Prop := fnExactBuildFromRow.holds Try.pinned (OpenSpec.ofChange fnExactBuildFromSpec)

/-- ITS FALSE NEIGHBOUR: 'it returns false'. Refute it at one input. -/
def fnExactBuildFromWrong : ChangeSpec := { name := "fnExactBuildFrom", fn := fun _ => fun
  | [d1, d2] => { results := [.lit (.bool false)], args := [d1, d2] }
  | _ => none }
def FnExactBuildFromWrongFalsely : Prop := fnExactBuildFromRow.holds Try.pinned (OpenSpec.ofChange fnExactBuildFromWrong)

/- THE SECOND FORM. 'bulk': how many values and letters a reading holds, each counted each time it is reached (what is shared counts as often as it is met; a slice's spare places count too). A statement '..UptoSaid' is the law's where the arguments, and the package variables that the reading takes, are together of bulk at most 1048576: NARROWER than '..Said'. Prove '..Said' where nothing that the law and all that it calls make is longer than what came in: it says more and counts as full. Else prove '..UptoSaid'. A law counts once. -/
mutual
def uptoBulk {H : Type} : DataW H → Nat
  | .lit (.string bytes) => bytes.length + 1
  | .lit _ => 1
  | .nil => 1
  | .ptr d => uptoBulk d + 1
  | .slice elems spare => uptoBulkAll elems + uptoBulkAll spare + 1
  | .agg parts => uptoBulkAll parts + 1
  | .iface _ d => uptoBulk d + 1
  | .map entries => uptoBulkEntries entries + 1
  | .held _ => 1
def uptoBulkAll {H : Type} : List (DataW H) → Nat
  | [] => 0
  | d :: r => uptoBulk d + uptoBulkAll r
def uptoBulkEntries {H : Type} : List (Lit × DataW H) → Nat
  | [] => 0
  | x :: r => uptoBulkEntry x + uptoBulkEntries r
def uptoBulkEntry {H : Type} : Lit × DataW H → Nat
  | (.string bytes, d) => bytes.length + uptoBulk d + 1
  | (_, d) => uptoBulk d + 1
 end
def uptoSmall : (H : Type) → List (DataW H) → Bool := fun _ ds => decide (uptoBulkAll ds ≤ 1048576)
def OpenSpec.upto (s : _root_.Go.ChangeSpec) : _root_.Go.OpenSpec := { _root_.Go.OpenSpec.ofChange s with cond := some uptoSmall }

/-- 'laws.FnExactClashOf', WHERE WHAT IT READS IS OF BULK AT MOST 1048576: true; the input reads as it did. -/
def fnExactClashOfUptoRow : OpenClaim := { program := "ytmbhaoiahlbglaa", sum := "ba92cf56cfdae51a13737d80a463a492d591368700afb43f5138c6a9272eeac9", func := "loop.example/g01174/laws.FnExactClashOf", spec := "fnExactClashOf", recurses := true, plainKeys := false, apart := false, narrowed := true }
def FnExactClashOfUptoSaid : Prop := fnExactClashOfUptoRow.holds Try.pinned (OpenSpec.upto fnExactClashOfSpec)

/-- 'laws.FnExactKeyOfPeaks', WHERE WHAT IT READS IS OF BULK AT MOST 1048576: true; the input reads as it did. -/
def fnExactKeyOfPeaksUptoRow : OpenClaim := { program := "ytmbhaoiahlbglaa", sum := "ba92cf56cfdae51a13737d80a463a492d591368700afb43f5138c6a9272eeac9", func := "loop.example/g01174/laws.FnExactKeyOfPeaks", spec := "fnExactKeyOfPeaks", recurses := true, plainKeys := false, apart := false, narrowed := true }
def FnExactKeyOfPeaksUptoSaid : Prop := fnExactKeyOfPeaksUptoRow.holds Try.pinned (OpenSpec.upto fnExactKeyOfPeaksSpec)

/-- 'laws.FnExactGrowthProof', WHERE WHAT IT READS IS OF BULK AT MOST 1048576: true; the input reads as it did. -/
def fnExactGrowthProofUptoRow : OpenClaim := { program := "ytmbhaoiahlbglaa", sum := "ba92cf56cfdae51a13737d80a463a492d591368700afb43f5138c6a9272eeac9", func := "loop.example/g01174/laws.FnExactGrowthProof", spec := "fnExactGrowthProof", recurses := true, plainKeys := false, apart := false, narrowed := true }
def FnExactGrowthProofUptoSaid : Prop := fnExactGrowthProofUptoRow.holds Try.pinned (OpenSpec.upto fnExactGrowthProofSpec)

/-- 'laws.FnExactClashOfProof', WHERE WHAT IT READS IS OF BULK AT MOST 1048576: true; the input reads as it did. -/
def fnExactClashOfProofUptoRow : OpenClaim := { program := "ytmbhaoiahlbglaa", sum := "ba92cf56cfdae51a13737d80a463a492d591368700afb43f5138c6a9272eeac9", func := "loop.example/g01174/laws.FnExactClashOfProof", spec := "fnExactClashOfProof", recurses := true, plainKeys := false, apart := false, narrowed := true }
def FnExactClashOfProofUptoSaid : Prop := fnExactClashOfProofUptoRow.holds Try.pinned (OpenSpec.upto fnExactClashOfProofSpec)

/-- 'laws.FnExactFindKey', WHERE WHAT IT READS IS OF BULK AT MOST 1048576: true; the input reads as it did. -/
def fnExactFindKeyUptoRow : OpenClaim := { program := "ytmbhaoiahlbglaa", sum := "ba92cf56cfdae51a13737d80a463a492d591368700afb43f5138c6a9272eeac9", func := "loop.example/g01174/laws.FnExactFindKey", spec := "fnExactFindKey", inPlace := ["internal/bytealg.IndexByteString"], unfollowed := true, recurses := true, plainKeys := false, apart := false, narrowed := true }
def FnExactFindKeyUptoSaid : Prop := fnExactFindKeyUptoRow.holds Try.pinned (OpenSpec.upto fnExactFindKeySpec)

/-- 'laws.FnExactSortKeys', WHERE WHAT IT READS IS OF BULK AT MOST 1048576: true; the input reads as it did. -/
def fnExactSortKeysUptoRow : OpenClaim := { program := "ytmbhaoiahlbglaa", sum := "ba92cf56cfdae51a13737d80a463a492d591368700afb43f5138c6a9272eeac9", func := "loop.example/g01174/laws.FnExactSortKeys", spec := "fnExactSortKeys", unfollowed := true, recurses := true, plainKeys := false, apart := false, narrowed := true }
def FnExactSortKeysUptoSaid : Prop := fnExactSortKeysUptoRow.holds Try.pinned (OpenSpec.upto fnExactSortKeysSpec)

/-- 'laws.FnExactNearestKeys', WHERE WHAT IT READS IS OF BULK AT MOST 1048576: true; the input reads as it did. -/
def fnExactNearestKeysUptoRow : OpenClaim := { program := "ytmbhaoiahlbglaa", sum := "ba92cf56cfdae51a13737d80a463a492d591368700afb43f5138c6a9272eeac9", func := "loop.example/g01174/laws.FnExactNearestKeys", spec := "fnExactNearestKeys", unfollowed := true, recurses := true, plainKeys := false, apart := false, narrowed := true }
def FnExactNearestKeysUptoSaid : Prop := fnExactNearestKeysUptoRow.holds Try.pinned (OpenSpec.upto fnExactNearestKeysSpec)

/-- 'laws.FnExactShortestPrefix', WHERE WHAT IT READS IS OF BULK AT MOST 1048576: true; the input reads as it did. -/
def fnExactShortestPrefixUptoRow : OpenClaim := { program := "ytmbhaoiahlbglaa", sum := "ba92cf56cfdae51a13737d80a463a492d591368700afb43f5138c6a9272eeac9", func := "loop.example/g01174/laws.FnExactShortestPrefix", spec := "fnExactShortestPrefix", unfollowed := true, recurses := true, plainKeys := false, apart := false, narrowed := true }
def FnExactShortestPrefixUptoSaid : Prop := fnExactShortestPrefixUptoRow.holds Try.pinned (OpenSpec.upto fnExactShortestPrefixSpec)

/-- 'laws.FnExactMissingFor', WHERE WHAT IT READS IS OF BULK AT MOST 1048576: true; the input reads as it did. -/
def fnExactMissingForUptoRow : OpenClaim := { program := "ytmbhaoiahlbglaa", sum := "ba92cf56cfdae51a13737d80a463a492d591368700afb43f5138c6a9272eeac9", func := "loop.example/g01174/laws.FnExactMissingFor", spec := "fnExactMissingFor", unfollowed := true, recurses := true, plainKeys := false, apart := false, narrowed := true }
def FnExactMissingForUptoSaid : Prop := fnExactMissingForUptoRow.holds Try.pinned (OpenSpec.upto fnExactMissingForSpec)

/-- 'laws.FnExactBuildFrom', WHERE WHAT IT READS IS OF BULK AT MOST 1048576: true; the input reads as it did. -/
def fnExactBuildFromUptoRow : OpenClaim := { program := "ytmbhaoiahlbglaa", sum := "ba92cf56cfdae51a13737d80a463a492d591368700afb43f5138c6a9272eeac9", func := "loop.example/g01174/laws.FnExactBuildFrom", spec := "fnExactBuildFrom", plainKeys := false, apart := false, narrowed := true }
def FnExactBuildFromUptoSaid : Prop := fnExactBuildFromUptoRow.holds Try.pinned (OpenSpec.upto fnExactBuildFromSpec)

end Rows
end Go.Proofs.Ytmbhaoiahlbglaa
