/- Walks: slices of keys (or of arrays of thirty-two bytes) compared, marked. -/
import Derived.Test.YtmbhaoiahlbglaaHC
import Derived.Test.YtmbhaoiahlbglaaRegM
namespace Go.Proofs.Ytmbhaoiahlbglaa
open Go.RowKit
set_option linter.unusedVariables false
set_option linter.unusedSimpArgs false

end Go.Proofs.Ytmbhaoiahlbglaa
