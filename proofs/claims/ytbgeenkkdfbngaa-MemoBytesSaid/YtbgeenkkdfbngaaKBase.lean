/-
  Nothing of its own (KBase stands on another seat). Conditions: none.
-/
import Derived.Test.YtbgeenkkdfbngaaR1
import Derived.Below
import Derived.Laws.Cells
namespace Go.Proofs.Ytbgeenkkdfbngaa
open Go.RowKit
set_option linter.unusedSimpArgs false
set_option linter.unusedVariables false

end Go.Proofs.Ytbgeenkkdfbngaa
