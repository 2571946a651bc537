/-
  Nothing of its own. Conditions: none.
-/
import Derived.Test.YtbgeenkkdfbngaaR1
import Derived.Laws.Cover3
namespace Go.Proofs.Ytbgeenkkdfbngaa
open Go.RowKit
set_option linter.unusedSimpArgs false
set_option linter.unusedVariables false

end Go.Proofs.Ytbgeenkkdfbngaa
