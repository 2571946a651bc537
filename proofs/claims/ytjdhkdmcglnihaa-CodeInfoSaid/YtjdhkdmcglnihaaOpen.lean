/-
  What every statement's frame of this seat asks of the program. Conditions: none.
-/
import Derived.Test.YtjdhkdmcglnihaaRows
import Derived.Test.YtjdhkdmcglnihaaBase
import Derived.WalkKit
import Derived.ProofKit
import Derived.OpenShut
import Derived.ShutString
import Derived.ChangeOld
import Derived.Below
import Derived.ChangeSame
namespace Go.Proofs.Ytjdhkdmcglnihaa
open Go.ChangeShapes Go.WideShapes Go.ChangeAt Go.RowKit
theorem own : ownKnob Try.prog.godebug = none := by kernel_rfl
theorem laidOut : laidOutB Try.prog = true := by kernel_rfl
end Go.Proofs.Ytjdhkdmcglnihaa
