/- slices.Equal and l6Same at integers. -/
import Derived.Test.YtdmjikfjmimfmaaDoorAux
import Derived.Test.YtdmjikfjmimfmaaDoorSep
namespace Go.Proofs.YtdmjikfjmimfmaaDoor
open Go.RowKit
set_option linter.unusedVariables false
set_option linter.unusedSimpArgs false



end Go.Proofs.YtdmjikfjmimfmaaDoor
