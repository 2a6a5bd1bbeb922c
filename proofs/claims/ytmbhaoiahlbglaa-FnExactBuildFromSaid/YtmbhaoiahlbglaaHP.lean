/- Walks: PadBlocks. -/
import Derived.Test.YtmbhaoiahlbglaaHC
import Derived.Test.YtmbhaoiahlbglaaHK
namespace Go.Proofs.Ytmbhaoiahlbglaa
open Go.RowKit
set_option linter.unusedVariables false
set_option linter.unusedSimpArgs false

/-- The blocks of some bytes. -/
def padKs (l : List UInt8) (c : Nat) : List Ky := blkK (padded l c) ((padded l c).length / 32)
@[simp] theorem padKs_len (l : List UInt8) (c : Nat) : (padKs l c).length = (padded l c).length / 32 := by simp [padKs]
/-- What PadBlocks gives. -/
def pbK (l : List UInt8) : List Ky := if l.length > 4096 then [] else padKs l l.length
def pbC (l : List UInt8) : Int := if l.length > 4096 then 3 else 0
theorem pbK_le (l : List UInt8) : (pbK l).length ≤ 200 := by
  unfold pbK
  split
  · simp
  · rw [padKs_len, padded_len]
    have := padZ_lt l.length
    omega

end Go.Proofs.Ytmbhaoiahlbglaa
