/- slices.Equal and l6Same at integers. -/
import Derived.Test.YthlmggogeeedjaaAux
import Derived.Test.YthlmggogeeedjaaSep
namespace Go.Proofs.Ythlmggogeeedjaa
open Go.RowKit
set_option linter.unusedVariables false
set_option linter.unusedSimpArgs false



end Go.Proofs.Ythlmggogeeedjaa
