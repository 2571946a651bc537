/-
  Nothing of its own (KBase stands on another seat). Conditions: none.
-/
import Derived.Test.YtjdhkdmcglnihaaProg
import Derived.Test.YtjdhkdmcglnihaaFlow
import Derived.Test.YtjdhkdmcglnihaaFlow2
import Derived.Test.YtjdhkdmcglnihaaBits
import Derived.Test.YtjdhkdmcglnihaaRange
import Derived.WalkKit
import Derived.ProofKit
import Derived.WalkSpells
import Derived.Lib.Hide
import Derived.Laws.StructEq
import Derived.Laws.Cells
import Derived.IntWalk
namespace Go.Proofs.Ytjdhkdmcglnihaa
open Go.RowKit
set_option linter.unusedSimpArgs false
set_option linter.unusedVariables false

end Go.Proofs.Ytjdhkdmcglnihaa
