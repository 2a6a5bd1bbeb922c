/- Walks: states of eight words. -/
import Derived.Test.YtmbhaoiahlbglaaDoorRows
import Derived.Test.YtmbhaoiahlbglaaDoorBase
namespace Go.Proofs.YtmbhaoiahlbglaaDoor
open Go.RowKit
set_option linter.unusedVariables false
set_option linter.unusedSimpArgs false

def zero8 : List UInt32 := List.replicate 8 0
/-- The i-th word of the state of a tag. -/
def startW (tag : UInt8) (i : Nat) : UInt32 := UInt32.ofNat (16777619 * (i + 1) + tag.toNat)
def startL (tag : UInt8) : List UInt32 := (List.range 8).map (startW tag)
theorem startL_length (tag : UInt8) : (startL tag).length = 8 := by simp [startL]

theorem startW_int (tag : UInt8) (k : Nat) (hk : k < 8) : ((startW tag k).toNat : Int) = 16777619 * ((k : Int) + 1) + (tag.toNat : Int) := by
  have := tag.toNat_lt
  simp only [startW, UInt32.toNat_ofNat']
  omega

end Go.Proofs.YtmbhaoiahlbglaaDoor
