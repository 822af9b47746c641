/- slices.Equal and l6Same at integers. -/
import Derived.Test.YtpenaobodcjimaaAux
import Derived.Test.YtpenaobodcjimaaSep
namespace Go.Proofs.Ytpenaobodcjimaa
open Go.RowKit
set_option linter.unusedVariables false
set_option linter.unusedSimpArgs false



end Go.Proofs.Ytpenaobodcjimaa
