/-
  DERIVED. GIVEN WITH THE SEED: THE CARDS: each row of YtijidnhaijdfaaaGreatDoorRows.lean that lists a variable, with what it lists TIED to the program's text (the seventh form; the later family's looks); each row that meets fmt, with fmt's text TOLD by the authors' own Lean function (tested against real Go, not proved from fmt's source: count such statements apart). THE CARD IS WHAT COUNTS. Prove the row's statement (the work); the ties are given (YtijidnhaijdfaaaGreatDoorTie.lean); close each card by the builder's one call (the guide's Derived/Test/ToyasCard.lean, 'card_holds'). Laid BY PROGRAM, IN A SANDBOX (cutbox-door.mjs). By AI agents, Wed Nov 11 2026. No macro, syntax, notation, axiom, sorry.
-/
import Derived.Test.YtijidnhaijdfaaaGreatDoorRows
import GoSem.ClaimSeven
namespace Go.Proofs.YtijidnhaijdfaaaGreatDoor
namespace Rows

/-- THE TIED CARD OF 'pharostop.TopAccounts'. -/
def topAccountsCard : Claim7 := { stood := { row := topAccountsRow, standIns := [], harness := (true, "b08381da9fbcb7ec57be7c8acd127f96c6d3b2ab38f7a675bd26aba5bca961cf"), looks := false }, kinds := [], alts := [], laidByText := true, laidKinds := [.data, .data, .data, .data, .pinned], laidTests := true, laidLooks := .later }
def TopAccountsCardSaid : Prop := Claim7.holds Tryz.pinned (.plain (OpenSpec.ofChange topAccountsSpec)) topAccountsCard

/-- THE TIED CARD OF 'pharostop.TopReceipts'. -/
def topReceiptsCard : Claim7 := { stood := { row := topReceiptsRow, standIns := [], harness := (true, "b08381da9fbcb7ec57be7c8acd127f96c6d3b2ab38f7a675bd26aba5bca961cf"), looks := false }, kinds := [], alts := [], laidByText := true, laidKinds := [.data, .data, .data, .data, .pinned], laidTests := true, laidLooks := .later }
def TopReceiptsCardSaid : Prop := Claim7.holds Tryz.pinned (.plain (OpenSpec.ofChange topReceiptsSpec)) topReceiptsCard

/-- THE SECOND FORM's CARD OF 'pharostop.TopAccounts'. -/
def topAccountsUptoCard : Claim7 := { stood := { row := topAccountsUptoRow, standIns := [], harness := (true, "b08381da9fbcb7ec57be7c8acd127f96c6d3b2ab38f7a675bd26aba5bca961cf"), looks := false }, kinds := [], alts := [], laidByText := true, laidKinds := [.data, .data, .data, .data, .pinned], laidTests := true, laidLooks := .later }
def TopAccountsUptoCardSaid : Prop := Claim7.holds Tryz.pinned (.plain (OpenSpec.upto topAccountsSpec)) topAccountsUptoCard

/-- THE SECOND FORM's CARD OF 'pharostop.TopReceipts'. -/
def topReceiptsUptoCard : Claim7 := { stood := { row := topReceiptsUptoRow, standIns := [], harness := (true, "b08381da9fbcb7ec57be7c8acd127f96c6d3b2ab38f7a675bd26aba5bca961cf"), looks := false }, kinds := [], alts := [], laidByText := true, laidKinds := [.data, .data, .data, .data, .pinned], laidTests := true, laidLooks := .later }
def TopReceiptsUptoCardSaid : Prop := Claim7.holds Tryz.pinned (.plain (OpenSpec.upto topReceiptsSpec)) topReceiptsUptoCard
end Rows
end Go.Proofs.YtijidnhaijdfaaaGreatDoor
