/-
  DERIVED. GIVEN WITH THE SEED: THE CARDS: each row of YtmbhaoiahlbglaaDoorRows.lean that lists a variable, with what it lists TIED to the program's text (the seventh form; the later family's looks); each row that meets fmt, with fmt's text TOLD by the authors' own Lean function (tested against real Go, not proved from fmt's source: count such statements apart). THE CARD IS WHAT COUNTS. Prove the row's statement (the work); the ties are given (YtmbhaoiahlbglaaDoorTie.lean); close each card by the builder's one call (the guide's Derived/Test/ToyasCard.lean, 'card_holds'). Laid BY PROGRAM, IN A SANDBOX (cutbox-door.mjs). By AI agents, Wed Nov 11 2026. No macro, syntax, notation, axiom, sorry.
-/
import Derived.Test.YtmbhaoiahlbglaaDoorRows
import GoSem.ClaimSeven
namespace Go.Proofs.YtmbhaoiahlbglaaDoor
namespace Rows

/-- THE TIED CARD OF 'laws.FnExactReadRecipe'. -/
def fnExactReadRecipeCard : Claim7 := { stood := { row := fnExactReadRecipeRow, standIns := [], harness := (true, "18a21c31e25ee5d3669446f74da4e42788218e9e2ac493c403f94d0164a2e9ad"), looks := true }, kinds := [], alts := [], laidByText := true, laidKinds := [.data, .data, .data, .data, .sentinel, .sentinel, .pinned], laidTests := true, laidLooks := .later }
def FnExactReadRecipeCardSaid : Prop := Claim7.holds Tryd.pinned (.plain (OpenSpec.ofChange fnExactReadRecipeSpec)) fnExactReadRecipeCard

/-- THE TIED CARD OF 'laws.FnExactRecipeText'. -/
def fnExactRecipeTextCard : Claim7 := { stood := { row := fnExactRecipeTextRow, standIns := [], harness := (true, "18a21c31e25ee5d3669446f74da4e42788218e9e2ac493c403f94d0164a2e9ad"), looks := true }, kinds := [], alts := [], laidByText := true, laidKinds := [.data, .data, .data], laidTests := true, laidLooks := .later }
def FnExactRecipeTextCardSaid : Prop := Claim7.holds Tryd.pinned (.plain (OpenSpec.ofChange fnExactRecipeTextSpec)) fnExactRecipeTextCard

/-- THE SECOND FORM's CARD OF 'laws.FnExactReadRecipe'. -/
def fnExactReadRecipeUptoCard : Claim7 := { stood := { row := fnExactReadRecipeUptoRow, standIns := [], harness := (true, "18a21c31e25ee5d3669446f74da4e42788218e9e2ac493c403f94d0164a2e9ad"), looks := true }, kinds := [], alts := [], laidByText := true, laidKinds := [.data, .data, .data, .data, .sentinel, .sentinel, .pinned], laidTests := true, laidLooks := .later }
def FnExactReadRecipeUptoCardSaid : Prop := Claim7.holds Tryd.pinned (.plain (OpenSpec.upto fnExactReadRecipeSpec)) fnExactReadRecipeUptoCard

/-- THE SECOND FORM's CARD OF 'laws.FnExactRecipeText'. -/
def fnExactRecipeTextUptoCard : Claim7 := { stood := { row := fnExactRecipeTextUptoRow, standIns := [], harness := (true, "18a21c31e25ee5d3669446f74da4e42788218e9e2ac493c403f94d0164a2e9ad"), looks := true }, kinds := [], alts := [], laidByText := true, laidKinds := [.data, .data, .data], laidTests := true, laidLooks := .later }
def FnExactRecipeTextUptoCardSaid : Prop := Claim7.holds Tryd.pinned (.plain (OpenSpec.upto fnExactRecipeTextSpec)) fnExactRecipeTextUptoCard
end Rows
end Go.Proofs.YtmbhaoiahlbglaaDoor
