/- Sums and multiples of matrices: clone, plus, AddMatrices, ScaleMatrix. -/
import Derived.Test.YtmcjgaffecimlaaMat2
import Derived.Test.YtmcjgaffecimlaaAddVec
import Derived.Test.YtmcjgaffecimlaaScaleVec
import Derived.Test.YtmcjgaffecimlaaMB
namespace Go.Proofs.Ytmcjgaffecimlaa
open Go.RowKit
set_option linter.unusedVariables false
set_option linter.unusedSimpArgs false

theorem MatOK.of_eq {r r' c c' : Int} {l l' : List Int} {ok ok' : Bool} {w w' : World} {e : Ending} (h : MatOK r c l ok w e w') (h1 : r = r') (h2 : c = c') (h3 : l = l') (h4 : ok = ok') : MatOK r' c' l' ok' w e w' := by
  subst h1; subst h2; subst h3; subst h4; exact h



end Go.Proofs.Ytmcjgaffecimlaa
