/-
  No cell of these rows narrows 'for every input' (looked for: loops, veiled, ifaces, maps, wideKeys, modest, calm, conditions, laid).
  DERIVED. THE GIVEN ROWS OF THIS SEAT. 12 by the template 'for every input the law returns true; each argument reads behind the call as it read before'; 0 by the template 'total and deterministic' (their statements: YtmganlabhkogcaaTotals.lean).
  GIVEN WITH THE SEED: the statements are not yours to turn. If you find one false, say at which input.
  Laid BY PROGRAM, IN A SANDBOX (cutbox-rows.mjs): the forced cells as the released guide's own fill.sh prints them over the translation 652635458d9639de… (all of the seat's roots in one cut). By AI agents, Wed Nov 11 2026. No macro, syntax, notation, axiom, sorry.
-/
import Derived.Test.YtmganlabhkogcaaChecked
import GoSem.Claim
import GoSem.ClaimJoined
import GoSem.ClaimMapViews
import Derived.JoinedTies
import Derived.KernelRfl
namespace Go.Proofs.Ytmganlabhkogcaa
/- THE CELL 'sum', in the pinned program and in every row, IS THE sha256 OF THE DUMP (.gsa) THAT YtmganlabhkogcaaProg.lean LOADS. Nothing in Lean hashes anything: it is a label: what it is worth is what the hold of that sum in a sandbox is worth. -/
noncomputable def Try.pinned : Pinned := { name := "ytmganlabhkogcaa", sum := "652635458d9639de70147aa15231af04544fe3abc04cc661155ec55e044140cb", checked := Try.checked }
namespace Rows
def none {H : Type} : Left H := { results := [], args := [] }

/-- 'laws.FnExactConstants': WHATEVER THE INPUT: true; the input reads as it did. -/
def fnExactConstantsSpec : ChangeSpec := { name := "fnExactConstants", fn := fun _ => fun
  | [] => { results := [.lit (.bool true)], args := [] }
  | _ => none }
def fnExactConstantsRow : OpenClaim := { program := "ytmganlabhkogcaa", sum := "652635458d9639de70147aa15231af04544fe3abc04cc661155ec55e044140cb", func := "loop.example/g01174/laws.FnExactConstants", spec := "fnExactConstants", apart := false }
def FnExactConstantsSaid : Prop := fnExactConstantsRow.holds Try.pinned (OpenSpec.ofChange fnExactConstantsSpec)

/-- ITS FALSE NEIGHBOUR: 'it returns false'. Refute it at one input. -/
def fnExactConstantsWrong : ChangeSpec := { name := "fnExactConstants", fn := fun _ => fun
  | [] => { results := [.lit (.bool false)], args := [] }
  | _ => none }
def FnExactConstantsWrongFalsely : Prop := fnExactConstantsRow.holds Try.pinned (OpenSpec.ofChange fnExactConstantsWrong)

/-- 'laws.FnExactCodeName': WHATEVER THE INPUT: true; the input reads as it did. -/
def fnExactCodeNameSpec : ChangeSpec := { name := "fnExactCodeName", fn := fun _ => fun
  | [d] => { results := [.lit (.bool true)], args := [d] }
  | _ => none }
def fnExactCodeNameRow : OpenClaim := { program := "ytmganlabhkogcaa", sum := "652635458d9639de70147aa15231af04544fe3abc04cc661155ec55e044140cb", func := "loop.example/g01174/laws.FnExactCodeName", spec := "fnExactCodeName", apart := false }
def FnExactCodeNameSaid : Prop := fnExactCodeNameRow.holds Try.pinned (OpenSpec.ofChange fnExactCodeNameSpec)

/-- ITS FALSE NEIGHBOUR: 'it returns false'. Refute it at one input. -/
def fnExactCodeNameWrong : ChangeSpec := { name := "fnExactCodeName", fn := fun _ => fun
  | [d] => { results := [.lit (.bool false)], args := [d] }
  | _ => none }
def FnExactCodeNameWrongFalsely : Prop := fnExactCodeNameRow.holds Try.pinned (OpenSpec.ofChange fnExactCodeNameWrong)

/-- 'laws.FnExactValidRule': WHATEVER THE INPUT: true; the input reads as it did. -/
def fnExactValidRuleSpec : ChangeSpec := { name := "fnExactValidRule", fn := fun _ => fun
  | [d] => { results := [.lit (.bool true)], args := [d] }
  | _ => none }
def fnExactValidRuleRow : OpenClaim := { program := "ytmganlabhkogcaa", sum := "652635458d9639de70147aa15231af04544fe3abc04cc661155ec55e044140cb", func := "loop.example/g01174/laws.FnExactValidRule", spec := "fnExactValidRule", apart := false }
def FnExactValidRuleSaid : Prop := fnExactValidRuleRow.holds Try.pinned (OpenSpec.ofChange fnExactValidRuleSpec)

/-- ITS FALSE NEIGHBOUR: 'it returns false'. Refute it at one input. -/
def fnExactValidRuleWrong : ChangeSpec := { name := "fnExactValidRule", fn := fun _ => fun
  | [d] => { results := [.lit (.bool false)], args := [d] }
  | _ => none }
def FnExactValidRuleWrongFalsely : Prop := fnExactValidRuleRow.holds Try.pinned (OpenSpec.ofChange fnExactValidRuleWrong)

/-- 'laws.FnExactStartState': WHATEVER THE INPUT: true; the input reads as it did. -/
def fnExactStartStateSpec : ChangeSpec := { name := "fnExactStartState", fn := fun _ => fun
  | [d] => { results := [.lit (.bool true)], args := [d] }
  | _ => none }
def fnExactStartStateRow : OpenClaim := { program := "ytmganlabhkogcaa", sum := "652635458d9639de70147aa15231af04544fe3abc04cc661155ec55e044140cb", func := "loop.example/g01174/laws.FnExactStartState", spec := "fnExactStartState", apart := false }
def FnExactStartStateSaid : Prop := fnExactStartStateRow.holds Try.pinned (OpenSpec.ofChange fnExactStartStateSpec)

/-- ITS FALSE NEIGHBOUR: 'it returns false'. Refute it at one input. -/
def fnExactStartStateWrong : ChangeSpec := { name := "fnExactStartState", fn := fun _ => fun
  | [d] => { results := [.lit (.bool false)], args := [d] }
  | _ => none }
def FnExactStartStateWrongFalsely : Prop := fnExactStartStateRow.holds Try.pinned (OpenSpec.ofChange fnExactStartStateWrong)

/-- 'laws.FnExactKeyText': WHATEVER THE INPUT: true; the input reads as it did. -/
def fnExactKeyTextSpec : ChangeSpec := { name := "fnExactKeyText", fn := fun _ => fun
  | [d] => { results := [.lit (.bool true)], args := [d] }
  | _ => none }
def fnExactKeyTextRow : OpenClaim := { program := "ytmganlabhkogcaa", sum := "652635458d9639de70147aa15231af04544fe3abc04cc661155ec55e044140cb", func := "loop.example/g01174/laws.FnExactKeyText", spec := "fnExactKeyText", apart := false }
def FnExactKeyTextSaid : Prop := fnExactKeyTextRow.holds Try.pinned (OpenSpec.ofChange fnExactKeyTextSpec)

/-- ITS FALSE NEIGHBOUR: 'it returns false'. Refute it at one input. -/
def fnExactKeyTextWrong : ChangeSpec := { name := "fnExactKeyText", fn := fun _ => fun
  | [d] => { results := [.lit (.bool false)], args := [d] }
  | _ => none }
def FnExactKeyTextWrongFalsely : Prop := fnExactKeyTextRow.holds Try.pinned (OpenSpec.ofChange fnExactKeyTextWrong)

/-- 'laws.FnExactXorKeys': WHATEVER THE INPUT: true; the input reads as it did. -/
def fnExactXorKeysSpec : ChangeSpec := { name := "fnExactXorKeys", fn := fun _ => fun
  | [d1, d2] => { results := [.lit (.bool true)], args := [d1, d2] }
  | _ => none }
def fnExactXorKeysRow : OpenClaim := { program := "ytmganlabhkogcaa", sum := "652635458d9639de70147aa15231af04544fe3abc04cc661155ec55e044140cb", func := "loop.example/g01174/laws.FnExactXorKeys", spec := "fnExactXorKeys", apart := false }
def FnExactXorKeysSaid : Prop := fnExactXorKeysRow.holds Try.pinned (OpenSpec.ofChange fnExactXorKeysSpec)

/-- ITS FALSE NEIGHBOUR: 'it returns false'. Refute it at one input. -/
def fnExactXorKeysWrong : ChangeSpec := { name := "fnExactXorKeys", fn := fun _ => fun
  | [d1, d2] => { results := [.lit (.bool false)], args := [d1, d2] }
  | _ => none }
def FnExactXorKeysWrongFalsely : Prop := fnExactXorKeysRow.holds Try.pinned (OpenSpec.ofChange fnExactXorKeysWrong)

/-- 'laws.FnExactValidEntry': WHATEVER THE INPUT: true; the input reads as it did. -/
def fnExactValidEntrySpec : ChangeSpec := { name := "fnExactValidEntry", fn := fun _ => fun
  | [d] => { results := [.lit (.bool true)], args := [d] }
  | _ => none }
def fnExactValidEntryRow : OpenClaim := { program := "ytmganlabhkogcaa", sum := "652635458d9639de70147aa15231af04544fe3abc04cc661155ec55e044140cb", func := "loop.example/g01174/laws.FnExactValidEntry", spec := "fnExactValidEntry", apart := false }
def FnExactValidEntrySaid : Prop := fnExactValidEntryRow.holds Try.pinned (OpenSpec.ofChange fnExactValidEntrySpec)

/-- ITS FALSE NEIGHBOUR: 'it returns false'. Refute it at one input. -/
def fnExactValidEntryWrong : ChangeSpec := { name := "fnExactValidEntry", fn := fun _ => fun
  | [d] => { results := [.lit (.bool false)], args := [d] }
  | _ => none }
def FnExactValidEntryWrongFalsely : Prop := fnExactValidEntryRow.holds Try.pinned (OpenSpec.ofChange fnExactValidEntryWrong)

/-- 'laws.FnExactCommonBits': WHATEVER THE INPUT: true; the input reads as it did. -/
def fnExactCommonBitsSpec : ChangeSpec := { name := "fnExactCommonBits", fn := fun _ => fun
  | [d1, d2] => { results := [.lit (.bool true)], args := [d1, d2] }
  | _ => none }
def fnExactCommonBitsRow : OpenClaim := { program := "ytmganlabhkogcaa", sum := "652635458d9639de70147aa15231af04544fe3abc04cc661155ec55e044140cb", func := "loop.example/g01174/laws.FnExactCommonBits", spec := "fnExactCommonBits", apart := false }
def FnExactCommonBitsSaid : Prop := fnExactCommonBitsRow.holds Try.pinned (OpenSpec.ofChange fnExactCommonBitsSpec)

/-- ITS FALSE NEIGHBOUR: 'it returns false'. Refute it at one input. -/
def fnExactCommonBitsWrong : ChangeSpec := { name := "fnExactCommonBits", fn := fun _ => fun
  | [d1, d2] => { results := [.lit (.bool false)], args := [d1, d2] }
  | _ => none }
def FnExactCommonBitsWrongFalsely : Prop := fnExactCommonBitsRow.holds Try.pinned (OpenSpec.ofChange fnExactCommonBitsWrong)

/-- 'laws.FnExactReadKey': WHATEVER THE INPUT: true; the input reads as it did. -/
def fnExactReadKeySpec : ChangeSpec := { name := "fnExactReadKey", fn := fun _ => fun
  | [d] => { results := [.lit (.bool true)], args := [d] }
  | _ => none }
def fnExactReadKeyRow : OpenClaim := { program := "ytmganlabhkogcaa", sum := "652635458d9639de70147aa15231af04544fe3abc04cc661155ec55e044140cb", func := "loop.example/g01174/laws.FnExactReadKey", spec := "fnExactReadKey", inPlace := ["internal/bytealg.IndexByteString"], apart := false }
def FnExactReadKeySaid : Prop := fnExactReadKeyRow.holds Try.pinned (OpenSpec.ofChange fnExactReadKeySpec)

/-- ITS FALSE NEIGHBOUR: 'it returns false'. Refute it at one input. -/
def fnExactReadKeyWrong : ChangeSpec := { name := "fnExactReadKey", fn := fun _ => fun
  | [d] => { results := [.lit (.bool false)], args := [d] }
  | _ => none }
def FnExactReadKeyWrongFalsely : Prop := fnExactReadKeyRow.holds Try.pinned (OpenSpec.ofChange fnExactReadKeyWrong)

/-- 'laws.FnExactCompareKeys': WHATEVER THE INPUT: true; the input reads as it did. -/
def fnExactCompareKeysSpec : ChangeSpec := { name := "fnExactCompareKeys", fn := fun _ => fun
  | [d1, d2] => { results := [.lit (.bool true)], args := [d1, d2] }
  | _ => none }
def fnExactCompareKeysRow : OpenClaim := { program := "ytmganlabhkogcaa", sum := "652635458d9639de70147aa15231af04544fe3abc04cc661155ec55e044140cb", func := "loop.example/g01174/laws.FnExactCompareKeys", spec := "fnExactCompareKeys", apart := false }
def FnExactCompareKeysSaid : Prop := fnExactCompareKeysRow.holds Try.pinned (OpenSpec.ofChange fnExactCompareKeysSpec)

/-- ITS FALSE NEIGHBOUR: 'it returns false'. Refute it at one input. -/
def fnExactCompareKeysWrong : ChangeSpec := { name := "fnExactCompareKeys", fn := fun _ => fun
  | [d1, d2] => { results := [.lit (.bool false)], args := [d1, d2] }
  | _ => none }
def FnExactCompareKeysWrongFalsely : Prop := fnExactCompareKeysRow.holds Try.pinned (OpenSpec.ofChange fnExactCompareKeysWrong)

/-- 'laws.FnExactTreeDepth': WHATEVER THE INPUT: true; the input reads as it did. -/
def fnExactTreeDepthSpec : ChangeSpec := { name := "fnExactTreeDepth", fn := fun _ => fun
  | [d1, d2] => { results := [.lit (.bool true)], args := [d1, d2] }
  | _ => none }
def fnExactTreeDepthRow : OpenClaim := { program := "ytmganlabhkogcaa", sum := "652635458d9639de70147aa15231af04544fe3abc04cc661155ec55e044140cb", func := "loop.example/g01174/laws.FnExactTreeDepth", spec := "fnExactTreeDepth", recurses := true, apart := false }
def FnExactTreeDepthSaid : Prop := fnExactTreeDepthRow.holds Try.pinned (OpenSpec.ofChange fnExactTreeDepthSpec)

/-- ITS FALSE NEIGHBOUR: 'it returns false'. Refute it at one input. -/
def fnExactTreeDepthWrong : ChangeSpec := { name := "fnExactTreeDepth", fn := fun _ => fun
  | [d1, d2] => { results := [.lit (.bool false)], args := [d1, d2] }
  | _ => none }
def FnExactTreeDepthWrongFalsely : Prop := fnExactTreeDepthRow.holds Try.pinned (OpenSpec.ofChange fnExactTreeDepthWrong)

/-- 'laws.FnExactValidHasher': WHATEVER THE INPUT: true; the input reads as it did. -/
def fnExactValidHasherSpec : ChangeSpec := { name := "fnExactValidHasher", fn := fun _ => fun
  | [d] => { results := [.lit (.bool true)], args := [d] }
  | _ => none }
def fnExactValidHasherRow : OpenClaim := { program := "ytmganlabhkogcaa", sum := "652635458d9639de70147aa15231af04544fe3abc04cc661155ec55e044140cb", func := "loop.example/g01174/laws.FnExactValidHasher", spec := "fnExactValidHasher", apart := false }
def FnExactValidHasherSaid : Prop := fnExactValidHasherRow.holds Try.pinned (OpenSpec.ofChange fnExactValidHasherSpec)

/-- ITS FALSE NEIGHBOUR: 'it returns false'. Refute it at one input. -/
def fnExactValidHasherWrong : ChangeSpec := { name := "fnExactValidHasher", fn := fun _ => fun
  | [d] => { results := [.lit (.bool false)], args := [d] }
  | _ => none }
def FnExactValidHasherWrongFalsely : Prop := fnExactValidHasherRow.holds Try.pinned (OpenSpec.ofChange fnExactValidHasherWrong)

/- THE SECOND FORM. 'bulk': how many values and letters a reading holds, each counted each time it is reached (what is shared counts as often as it is met; a slice's spare places count too). A statement '..UptoSaid' is the law's where the arguments, and the package variables that the reading takes, are together of bulk at most 1048576: NARROWER than '..Said'. Prove '..Said' where nothing that the law and all that it calls make is longer than what came in: it says more and counts as full. Else prove '..UptoSaid'. A law counts once. -/
mutual
def uptoBulk {H : Type} : DataW H → Nat
  | .lit (.string bytes) => bytes.length + 1
  | .lit _ => 1
  | .nil => 1
  | .ptr d => uptoBulk d + 1
  | .slice elems spare => uptoBulkAll elems + uptoBulkAll spare + 1
  | .agg parts => uptoBulkAll parts + 1
  | .iface _ d => uptoBulk d + 1
  | .map entries => uptoBulkEntries entries + 1
  | .held _ => 1
def uptoBulkAll {H : Type} : List (DataW H) → Nat
  | [] => 0
  | d :: r => uptoBulk d + uptoBulkAll r
def uptoBulkEntries {H : Type} : List (Lit × DataW H) → Nat
  | [] => 0
  | x :: r => uptoBulkEntry x + uptoBulkEntries r
def uptoBulkEntry {H : Type} : Lit × DataW H → Nat
  | (.string bytes, d) => bytes.length + uptoBulk d + 1
  | (_, d) => uptoBulk d + 1
 end
def uptoSmall : (H : Type) → List (DataW H) → Bool := fun _ ds => decide (uptoBulkAll ds ≤ 1048576)
def OpenSpec.upto (s : _root_.Go.ChangeSpec) : _root_.Go.OpenSpec := { _root_.Go.OpenSpec.ofChange s with cond := some uptoSmall }

/-- 'laws.FnExactConstants', WHERE WHAT IT READS IS OF BULK AT MOST 1048576: true; the input reads as it did. -/
def fnExactConstantsUptoRow : OpenClaim := { program := "ytmganlabhkogcaa", sum := "652635458d9639de70147aa15231af04544fe3abc04cc661155ec55e044140cb", func := "loop.example/g01174/laws.FnExactConstants", spec := "fnExactConstants", apart := false, narrowed := true }
def FnExactConstantsUptoSaid : Prop := fnExactConstantsUptoRow.holds Try.pinned (OpenSpec.upto fnExactConstantsSpec)

/-- 'laws.FnExactCodeName', WHERE WHAT IT READS IS OF BULK AT MOST 1048576: true; the input reads as it did. -/
def fnExactCodeNameUptoRow : OpenClaim := { program := "ytmganlabhkogcaa", sum := "652635458d9639de70147aa15231af04544fe3abc04cc661155ec55e044140cb", func := "loop.example/g01174/laws.FnExactCodeName", spec := "fnExactCodeName", apart := false, narrowed := true }
def FnExactCodeNameUptoSaid : Prop := fnExactCodeNameUptoRow.holds Try.pinned (OpenSpec.upto fnExactCodeNameSpec)

/-- 'laws.FnExactValidRule', WHERE WHAT IT READS IS OF BULK AT MOST 1048576: true; the input reads as it did. -/
def fnExactValidRuleUptoRow : OpenClaim := { program := "ytmganlabhkogcaa", sum := "652635458d9639de70147aa15231af04544fe3abc04cc661155ec55e044140cb", func := "loop.example/g01174/laws.FnExactValidRule", spec := "fnExactValidRule", apart := false, narrowed := true }
def FnExactValidRuleUptoSaid : Prop := fnExactValidRuleUptoRow.holds Try.pinned (OpenSpec.upto fnExactValidRuleSpec)

/-- 'laws.FnExactStartState', WHERE WHAT IT READS IS OF BULK AT MOST 1048576: true; the input reads as it did. -/
def fnExactStartStateUptoRow : OpenClaim := { program := "ytmganlabhkogcaa", sum := "652635458d9639de70147aa15231af04544fe3abc04cc661155ec55e044140cb", func := "loop.example/g01174/laws.FnExactStartState", spec := "fnExactStartState", apart := false, narrowed := true }
def FnExactStartStateUptoSaid : Prop := fnExactStartStateUptoRow.holds Try.pinned (OpenSpec.upto fnExactStartStateSpec)

/-- 'laws.FnExactKeyText', WHERE WHAT IT READS IS OF BULK AT MOST 1048576: true; the input reads as it did. -/
def fnExactKeyTextUptoRow : OpenClaim := { program := "ytmganlabhkogcaa", sum := "652635458d9639de70147aa15231af04544fe3abc04cc661155ec55e044140cb", func := "loop.example/g01174/laws.FnExactKeyText", spec := "fnExactKeyText", apart := false, narrowed := true }
def FnExactKeyTextUptoSaid : Prop := fnExactKeyTextUptoRow.holds Try.pinned (OpenSpec.upto fnExactKeyTextSpec)

/-- 'laws.FnExactXorKeys', WHERE WHAT IT READS IS OF BULK AT MOST 1048576: true; the input reads as it did. -/
def fnExactXorKeysUptoRow : OpenClaim := { program := "ytmganlabhkogcaa", sum := "652635458d9639de70147aa15231af04544fe3abc04cc661155ec55e044140cb", func := "loop.example/g01174/laws.FnExactXorKeys", spec := "fnExactXorKeys", apart := false, narrowed := true }
def FnExactXorKeysUptoSaid : Prop := fnExactXorKeysUptoRow.holds Try.pinned (OpenSpec.upto fnExactXorKeysSpec)

/-- 'laws.FnExactValidEntry', WHERE WHAT IT READS IS OF BULK AT MOST 1048576: true; the input reads as it did. -/
def fnExactValidEntryUptoRow : OpenClaim := { program := "ytmganlabhkogcaa", sum := "652635458d9639de70147aa15231af04544fe3abc04cc661155ec55e044140cb", func := "loop.example/g01174/laws.FnExactValidEntry", spec := "fnExactValidEntry", apart := false, narrowed := true }
def FnExactValidEntryUptoSaid : Prop := fnExactValidEntryUptoRow.holds Try.pinned (OpenSpec.upto fnExactValidEntrySpec)

/-- 'laws.FnExactCommonBits', WHERE WHAT IT READS IS OF BULK AT MOST 1048576: true; the input reads as it did. -/
def fnExactCommonBitsUptoRow : OpenClaim := { program := "ytmganlabhkogcaa", sum := "652635458d9639de70147aa15231af04544fe3abc04cc661155ec55e044140cb", func := "loop.example/g01174/laws.FnExactCommonBits", spec := "fnExactCommonBits", apart := false, narrowed := true }
def FnExactCommonBitsUptoSaid : Prop := fnExactCommonBitsUptoRow.holds Try.pinned (OpenSpec.upto fnExactCommonBitsSpec)

/-- 'laws.FnExactReadKey', WHERE WHAT IT READS IS OF BULK AT MOST 1048576: true; the input reads as it did. -/
def fnExactReadKeyUptoRow : OpenClaim := { program := "ytmganlabhkogcaa", sum := "652635458d9639de70147aa15231af04544fe3abc04cc661155ec55e044140cb", func := "loop.example/g01174/laws.FnExactReadKey", spec := "fnExactReadKey", inPlace := ["internal/bytealg.IndexByteString"], apart := false, narrowed := true }
def FnExactReadKeyUptoSaid : Prop := fnExactReadKeyUptoRow.holds Try.pinned (OpenSpec.upto fnExactReadKeySpec)

/-- 'laws.FnExactCompareKeys', WHERE WHAT IT READS IS OF BULK AT MOST 1048576: true; the input reads as it did. -/
def fnExactCompareKeysUptoRow : OpenClaim := { program := "ytmganlabhkogcaa", sum := "652635458d9639de70147aa15231af04544fe3abc04cc661155ec55e044140cb", func := "loop.example/g01174/laws.FnExactCompareKeys", spec := "fnExactCompareKeys", apart := false, narrowed := true }
def FnExactCompareKeysUptoSaid : Prop := fnExactCompareKeysUptoRow.holds Try.pinned (OpenSpec.upto fnExactCompareKeysSpec)

/-- 'laws.FnExactTreeDepth', WHERE WHAT IT READS IS OF BULK AT MOST 1048576: true; the input reads as it did. -/
def fnExactTreeDepthUptoRow : OpenClaim := { program := "ytmganlabhkogcaa", sum := "652635458d9639de70147aa15231af04544fe3abc04cc661155ec55e044140cb", func := "loop.example/g01174/laws.FnExactTreeDepth", spec := "fnExactTreeDepth", recurses := true, apart := false, narrowed := true }
def FnExactTreeDepthUptoSaid : Prop := fnExactTreeDepthUptoRow.holds Try.pinned (OpenSpec.upto fnExactTreeDepthSpec)

/-- 'laws.FnExactValidHasher', WHERE WHAT IT READS IS OF BULK AT MOST 1048576: true; the input reads as it did. -/
def fnExactValidHasherUptoRow : OpenClaim := { program := "ytmganlabhkogcaa", sum := "652635458d9639de70147aa15231af04544fe3abc04cc661155ec55e044140cb", func := "loop.example/g01174/laws.FnExactValidHasher", spec := "fnExactValidHasher", apart := false, narrowed := true }
def FnExactValidHasherUptoSaid : Prop := fnExactValidHasherUptoRow.holds Try.pinned (OpenSpec.upto fnExactValidHasherSpec)

end Rows
end Go.Proofs.Ytmganlabhkogcaa
