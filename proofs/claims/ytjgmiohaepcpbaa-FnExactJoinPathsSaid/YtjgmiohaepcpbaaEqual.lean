/- slices.Equal and l6Same at integers. -/
import Derived.Test.YtjgmiohaepcpbaaAux
import Derived.Test.YtjgmiohaepcpbaaSep
namespace Go.Proofs.Ytjgmiohaepcpbaa
open Go.RowKit
set_option linter.unusedVariables false



end Go.Proofs.Ytjgmiohaepcpbaa
