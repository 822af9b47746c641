/- slices.Equal and l6Same at integers. -/
import Derived.Test.YtammomoncjpgnaaAux
import Derived.Test.YtammomoncjpgnaaSep
namespace Go.Proofs.Ytammomoncjpgnaa
open Go.RowKit
set_option linter.unusedVariables false
set_option linter.unusedSimpArgs false



end Go.Proofs.Ytammomoncjpgnaa
