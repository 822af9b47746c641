/- AllPaths and LongestPath, of the program. -/
import Derived.Test.YthlmggogeeedjaaPFrom
namespace Go.Proofs.Ythlmggogeeedjaa
open Go.RowKit
set_option linter.unusedVariables false
set_option linter.unusedSimpArgs false


end Go.Proofs.Ythlmggogeeedjaa
