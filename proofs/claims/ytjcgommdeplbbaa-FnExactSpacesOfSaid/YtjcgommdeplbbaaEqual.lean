/- slices.Equal and l6Same at integers. -/
import Derived.Test.YtjcgommdeplbbaaMg2
namespace Go.Proofs.Ytjcgommdeplbbaa
open Go.RowKit
set_option linter.unusedVariables false
set_option linter.unusedSimpArgs false



end Go.Proofs.Ytjcgommdeplbbaa
