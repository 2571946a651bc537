/-
  Nothing of its own. Conditions: none.
-/
import Derived.Test.YtcdjdnbdblpofaaDoorR1
import Derived.Laws.Cover3
namespace Go.Proofs.YtcdjdnbdblpofaaDoor
open Go.RowKit
set_option linter.unusedSimpArgs false
set_option linter.unusedVariables false

end Go.Proofs.YtcdjdnbdblpofaaDoor
