/-
  DERIVED. GIVEN WITH THE SEED: THE CARDS: each row of YtcdjdnbdblpofaaDoorRows.lean that lists a variable, with what it lists TIED to the program's text (the seventh form; the later family's looks); each row that meets fmt, with fmt's text TOLD by the authors' own Lean function (tested against real Go, not proved from fmt's source: count such statements apart). THE CARD IS WHAT COUNTS. Prove the row's statement (the work); the ties are given (YtcdjdnbdblpofaaDoorTie.lean); close each card by the builder's one call (the guide's Derived/Test/ToyasCard.lean, 'card_holds'). Laid BY PROGRAM, IN A SANDBOX (cutbox-door.mjs). By AI agents, Wed Nov 11 2026. No macro, syntax, notation, axiom, sorry.
-/
import Derived.Test.YtcdjdnbdblpofaaDoorRows
import GoSem.ClaimSeven
namespace Go.Proofs.YtcdjdnbdblpofaaDoor
namespace Rows

/-- THE TIED CARD OF 'pharoslaw19.StateAsks'. -/
def stateAsksCard : Claim7 := { stood := { row := stateAsksRow, standIns := [], harness := (true, "ddcc8fdb8d57076688caf38ae0139b572eb9dee0352c7ff7398176c835a70a7c"), looks := false }, kinds := [], alts := [], laidByText := true, laidKinds := [.data, .data, .data], laidTests := true, laidLooks := .later }
def StateAsksCardSaid : Prop := Claim7.holds Tryd.pinned (.plain (OpenSpec.ofChange stateAsksSpec)) stateAsksCard

/-- THE TIED CARD OF 'pharoslaw19.StateLogs'. -/
def stateLogsCard : Claim7 := { stood := { row := stateLogsRow, standIns := [], harness := (true, "ddcc8fdb8d57076688caf38ae0139b572eb9dee0352c7ff7398176c835a70a7c"), looks := false }, kinds := [], alts := [], laidByText := true, laidKinds := [.data, .data, .data], laidTests := true, laidLooks := .later }
def StateLogsCardSaid : Prop := Claim7.holds Tryd.pinned (.plain (OpenSpec.ofChange stateLogsSpec)) stateLogsCard

/-- THE TIED CARD OF 'pharoslaw19.StateSums'. -/
def stateSumsCard : Claim7 := { stood := { row := stateSumsRow, standIns := [], harness := (true, "ddcc8fdb8d57076688caf38ae0139b572eb9dee0352c7ff7398176c835a70a7c"), looks := false }, kinds := [], alts := [], laidByText := true, laidKinds := [.data, .data, .data], laidTests := true, laidLooks := .later }
def StateSumsCardSaid : Prop := Claim7.holds Tryd.pinned (.plain (OpenSpec.ofChange stateSumsSpec)) stateSumsCard

/-- THE TIED CARD OF 'pharoslaw19.StateDoes'. -/
def stateDoesCard : Claim7 := { stood := { row := stateDoesRow, standIns := [], harness := (true, "ddcc8fdb8d57076688caf38ae0139b572eb9dee0352c7ff7398176c835a70a7c"), looks := false }, kinds := [], alts := [], laidByText := true, laidKinds := [.data, .data, .data], laidTests := true, laidLooks := .later }
def StateDoesCardSaid : Prop := Claim7.holds Tryd.pinned (.plain (OpenSpec.ofChange stateDoesSpec)) stateDoesCard

/-- THE TIED CARD OF 'pharoslaw19.StateBack'. -/
def stateBackCard : Claim7 := { stood := { row := stateBackRow, standIns := [], harness := (true, "ddcc8fdb8d57076688caf38ae0139b572eb9dee0352c7ff7398176c835a70a7c"), looks := false }, kinds := [], alts := [], laidByText := true, laidKinds := [.data, .data, .data], laidTests := true, laidLooks := .later }
def StateBackCardSaid : Prop := Claim7.holds Tryd.pinned (.plain (OpenSpec.ofChange stateBackSpec)) stateBackCard

/-- THE TIED CARD OF 'pharoslaw19.StateNone'. -/
def stateNoneCard : Claim7 := { stood := { row := stateNoneRow, standIns := [], harness := (true, "ddcc8fdb8d57076688caf38ae0139b572eb9dee0352c7ff7398176c835a70a7c"), looks := false }, kinds := [], alts := [], laidByText := true, laidKinds := [.data, .data, .data], laidTests := true, laidLooks := .later }
def StateNoneCardSaid : Prop := Claim7.holds Tryd.pinned (.plain (OpenSpec.ofChange stateNoneSpec)) stateNoneCard

/-- THE SECOND FORM's CARD OF 'pharoslaw19.StateAsks'. -/
def stateAsksUptoCard : Claim7 := { stood := { row := stateAsksUptoRow, standIns := [], harness := (true, "ddcc8fdb8d57076688caf38ae0139b572eb9dee0352c7ff7398176c835a70a7c"), looks := false }, kinds := [], alts := [], laidByText := true, laidKinds := [.data, .data, .data], laidTests := true, laidLooks := .later }
def StateAsksUptoCardSaid : Prop := Claim7.holds Tryd.pinned (.plain (OpenSpec.upto stateAsksSpec)) stateAsksUptoCard

/-- THE SECOND FORM's CARD OF 'pharoslaw19.StateLogs'. -/
def stateLogsUptoCard : Claim7 := { stood := { row := stateLogsUptoRow, standIns := [], harness := (true, "ddcc8fdb8d57076688caf38ae0139b572eb9dee0352c7ff7398176c835a70a7c"), looks := false }, kinds := [], alts := [], laidByText := true, laidKinds := [.data, .data, .data], laidTests := true, laidLooks := .later }
def StateLogsUptoCardSaid : Prop := Claim7.holds Tryd.pinned (.plain (OpenSpec.upto stateLogsSpec)) stateLogsUptoCard

/-- THE SECOND FORM's CARD OF 'pharoslaw19.StateSums'. -/
def stateSumsUptoCard : Claim7 := { stood := { row := stateSumsUptoRow, standIns := [], harness := (true, "ddcc8fdb8d57076688caf38ae0139b572eb9dee0352c7ff7398176c835a70a7c"), looks := false }, kinds := [], alts := [], laidByText := true, laidKinds := [.data, .data, .data], laidTests := true, laidLooks := .later }
def StateSumsUptoCardSaid : Prop := Claim7.holds Tryd.pinned (.plain (OpenSpec.upto stateSumsSpec)) stateSumsUptoCard

/-- THE SECOND FORM's CARD OF 'pharoslaw19.StateDoes'. -/
def stateDoesUptoCard : Claim7 := { stood := { row := stateDoesUptoRow, standIns := [], harness := (true, "ddcc8fdb8d57076688caf38ae0139b572eb9dee0352c7ff7398176c835a70a7c"), looks := false }, kinds := [], alts := [], laidByText := true, laidKinds := [.data, .data, .data], laidTests := true, laidLooks := .later }
def StateDoesUptoCardSaid : Prop := Claim7.holds Tryd.pinned (.plain (OpenSpec.upto stateDoesSpec)) stateDoesUptoCard

/-- THE SECOND FORM's CARD OF 'pharoslaw19.StateBack'. -/
def stateBackUptoCard : Claim7 := { stood := { row := stateBackUptoRow, standIns := [], harness := (true, "ddcc8fdb8d57076688caf38ae0139b572eb9dee0352c7ff7398176c835a70a7c"), looks := false }, kinds := [], alts := [], laidByText := true, laidKinds := [.data, .data, .data], laidTests := true, laidLooks := .later }
def StateBackUptoCardSaid : Prop := Claim7.holds Tryd.pinned (.plain (OpenSpec.upto stateBackSpec)) stateBackUptoCard

/-- THE SECOND FORM's CARD OF 'pharoslaw19.StateNone'. -/
def stateNoneUptoCard : Claim7 := { stood := { row := stateNoneUptoRow, standIns := [], harness := (true, "ddcc8fdb8d57076688caf38ae0139b572eb9dee0352c7ff7398176c835a70a7c"), looks := false }, kinds := [], alts := [], laidByText := true, laidKinds := [.data, .data, .data], laidTests := true, laidLooks := .later }
def StateNoneUptoCardSaid : Prop := Claim7.holds Tryd.pinned (.plain (OpenSpec.upto stateNoneSpec)) stateNoneUptoCard
end Rows
end Go.Proofs.YtcdjdnbdblpofaaDoor
