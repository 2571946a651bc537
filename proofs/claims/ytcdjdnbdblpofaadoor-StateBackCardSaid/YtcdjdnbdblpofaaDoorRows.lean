/-
  NARROWER THAN 'FOR EVERY INPUT', by the rows' own cells (each row's printed sentence says how): StateAsks: laid · StateLogs: laid · StateSums: laid · StateDoes: laid · StateBack: laid · StateNone: laid.
  DERIVED. THE GIVEN ROWS OF THIS SEAT. 6 by the template 'for every input the law returns true; each argument reads behind the call as it read before'; 0 by the template 'total and deterministic' (their statements: YtcdjdnbdblpofaaDoorTotals.lean).
  GIVEN WITH THE SEED: the statements are not yours to turn. If you find one false, say at which input.
  Laid BY PROGRAM, IN A SANDBOX (cutbox-rows.mjs): the forced cells as the released guide's own fill.sh prints them over the translation 8c959f1e4fffd69d… (all of the seat's roots in one cut). By AI agents, Wed Nov 11 2026. No macro, syntax, notation, axiom, sorry.
-/
import Derived.Test.YtcdjdnbdblpofaaDoorChecked
import GoSem.Claim
import GoSem.ClaimJoined
import GoSem.ClaimMapViews
import Derived.JoinedTies
import Derived.KernelRfl
namespace Go.Proofs.YtcdjdnbdblpofaaDoor
/- THE CELL 'sum', in the pinned program and in every row, IS THE sha256 OF THE DUMP (.gsa) THAT YtcdjdnbdblpofaaDoorProg.lean LOADS. Nothing in Lean hashes anything: it is a label: what it is worth is what the hold of that sum in a sandbox is worth. -/
noncomputable def Tryd.pinned : Pinned := { name := "ytcdjdnbdblpofaadoor", sum := "8c959f1e4fffd69d46751fe132fc821de76aecf294b5d420d4ce3ac0a5f2434a", checked := Tryd.checked }
namespace Rows
def none {H : Type} : Left H := { results := [], args := [] }

/- WHAT THE LISTED PACKAGE-LEVEL VARIABLES READ AS WHEN THE CALL BEGINS. Each datum BY PROGRAM (the guide's laid-datum.mjs) off the statement by which the dump's own 'gosem.cut.vars' lays the variable. In a bare row this is a premise. The card (YtcdjdnbdblpofaaDoorCards.lean) ties it to the program's text. -/
def laid_pharos_keccak_constants {H : Type} : DataW H := .agg [.lit (.int .u64 1), .lit (.int .u64 32898), .lit (.int .u64 9223372036854808714), .lit (.int .u64 9223372039002292224), .lit (.int .u64 32907), .lit (.int .u64 2147483649), .lit (.int .u64 9223372039002292353), .lit (.int .u64 9223372036854808585), .lit (.int .u64 138), .lit (.int .u64 136), .lit (.int .u64 2147516425), .lit (.int .u64 2147483658), .lit (.int .u64 2147516555), .lit (.int .u64 9223372036854775947), .lit (.int .u64 9223372036854808713), .lit (.int .u64 9223372036854808579), .lit (.int .u64 9223372036854808578), .lit (.int .u64 9223372036854775936), .lit (.int .u64 32778), .lit (.int .u64 9223372039002259466), .lit (.int .u64 9223372039002292353), .lit (.int .u64 9223372036854808704), .lit (.int .u64 2147483649), .lit (.int .u64 9223372039002292232)]
def laid_pharos_keccak_turns {H : Type} : DataW H := .agg [.lit (.int .i64 1), .lit (.int .i64 3), .lit (.int .i64 6), .lit (.int .i64 10), .lit (.int .i64 15), .lit (.int .i64 21), .lit (.int .i64 28), .lit (.int .i64 36), .lit (.int .i64 45), .lit (.int .i64 55), .lit (.int .i64 2), .lit (.int .i64 14), .lit (.int .i64 27), .lit (.int .i64 41), .lit (.int .i64 56), .lit (.int .i64 8), .lit (.int .i64 25), .lit (.int .i64 43), .lit (.int .i64 62), .lit (.int .i64 18), .lit (.int .i64 39), .lit (.int .i64 61), .lit (.int .i64 20), .lit (.int .i64 44)]
def laid_pharos_keccak_places {H : Type} : DataW H := .agg [.lit (.int .i64 10), .lit (.int .i64 7), .lit (.int .i64 11), .lit (.int .i64 17), .lit (.int .i64 18), .lit (.int .i64 3), .lit (.int .i64 5), .lit (.int .i64 16), .lit (.int .i64 8), .lit (.int .i64 21), .lit (.int .i64 24), .lit (.int .i64 4), .lit (.int .i64 15), .lit (.int .i64 23), .lit (.int .i64 19), .lit (.int .i64 13), .lit (.int .i64 12), .lit (.int .i64 2), .lit (.int .i64 20), .lit (.int .i64 14), .lit (.int .i64 22), .lit (.int .i64 9), .lit (.int .i64 6), .lit (.int .i64 1)]

/-- 'pharoslaw19.StateAsks': WHATEVER THE INPUT: true; the input reads as it did. -/
def stateAsksSpec : ChangeSpec := { name := "stateAsks", fn := fun _ => fun
  | [d1, d2, d3] => { results := [.lit (.bool true)], args := [d1, d2, d3] }
  | _ => none }
def stateAsksRow : OpenClaim := { program := "ytcdjdnbdblpofaadoor", sum := "8c959f1e4fffd69d46751fe132fc821de76aecf294b5d420d4ce3ac0a5f2434a", func := "pharos/pharoslaw19.StateAsks", spec := "stateAsks", inPlace := ["internal/abi.NoEscape", "internal/bytealg.MakeNoZero"], unfollowed := true, recurses := true, named := ["pharos/keccak.places", "pharos/keccak.turns", "pharos/keccak.constants"], plainKeys := false, apart := false, laid := [("pharos/keccak.constants", laid_pharos_keccak_constants), ("pharos/keccak.turns", laid_pharos_keccak_turns), ("pharos/keccak.places", laid_pharos_keccak_places)] }
def StateAsksSaid : Prop := stateAsksRow.holds Tryd.pinned (OpenSpec.ofChange stateAsksSpec)

/-- ITS FALSE NEIGHBOUR: 'it returns false'. Refute it at one input. -/
def stateAsksWrong : ChangeSpec := { name := "stateAsks", fn := fun _ => fun
  | [d1, d2, d3] => { results := [.lit (.bool false)], args := [d1, d2, d3] }
  | _ => none }
def StateAsksWrongFalsely : Prop := stateAsksRow.holds Tryd.pinned (OpenSpec.ofChange stateAsksWrong)

/-- 'pharoslaw19.StateLogs': WHATEVER THE INPUT: true; the input reads as it did. -/
def stateLogsSpec : ChangeSpec := { name := "stateLogs", fn := fun _ => fun
  | [d1, d2, d3, d4, d5] => { results := [.lit (.bool true)], args := [d1, d2, d3, d4, d5] }
  | _ => none }
def stateLogsRow : OpenClaim := { program := "ytcdjdnbdblpofaadoor", sum := "8c959f1e4fffd69d46751fe132fc821de76aecf294b5d420d4ce3ac0a5f2434a", func := "pharos/pharoslaw19.StateLogs", spec := "stateLogs", inPlace := ["internal/abi.NoEscape", "internal/bytealg.MakeNoZero"], unfollowed := true, recurses := true, named := ["pharos/keccak.places", "pharos/keccak.turns", "pharos/keccak.constants"], plainKeys := false, apart := false, laid := [("pharos/keccak.constants", laid_pharos_keccak_constants), ("pharos/keccak.turns", laid_pharos_keccak_turns), ("pharos/keccak.places", laid_pharos_keccak_places)] }
def StateLogsSaid : Prop := stateLogsRow.holds Tryd.pinned (OpenSpec.ofChange stateLogsSpec)

/-- ITS FALSE NEIGHBOUR: 'it returns false'. Refute it at one input. -/
def stateLogsWrong : ChangeSpec := { name := "stateLogs", fn := fun _ => fun
  | [d1, d2, d3, d4, d5] => { results := [.lit (.bool false)], args := [d1, d2, d3, d4, d5] }
  | _ => none }
def StateLogsWrongFalsely : Prop := stateLogsRow.holds Tryd.pinned (OpenSpec.ofChange stateLogsWrong)

/-- 'pharoslaw19.StateSums': WHATEVER THE INPUT: true; the input reads as it did. -/
def stateSumsSpec : ChangeSpec := { name := "stateSums", fn := fun _ => fun
  | [d1, d2] => { results := [.lit (.bool true)], args := [d1, d2] }
  | _ => none }
def stateSumsRow : OpenClaim := { program := "ytcdjdnbdblpofaadoor", sum := "8c959f1e4fffd69d46751fe132fc821de76aecf294b5d420d4ce3ac0a5f2434a", func := "pharos/pharoslaw19.StateSums", spec := "stateSums", inPlace := ["internal/abi.NoEscape", "internal/bytealg.MakeNoZero", "math/bits.Add64", "math/bits.Sub64"], unfollowed := true, recurses := true, named := ["pharos/keccak.places", "pharos/keccak.turns", "pharos/keccak.constants"], plainKeys := false, apart := false, laid := [("pharos/keccak.constants", laid_pharos_keccak_constants), ("pharos/keccak.turns", laid_pharos_keccak_turns), ("pharos/keccak.places", laid_pharos_keccak_places)] }
def StateSumsSaid : Prop := stateSumsRow.holds Tryd.pinned (OpenSpec.ofChange stateSumsSpec)

/-- ITS FALSE NEIGHBOUR: 'it returns false'. Refute it at one input. -/
def stateSumsWrong : ChangeSpec := { name := "stateSums", fn := fun _ => fun
  | [d1, d2] => { results := [.lit (.bool false)], args := [d1, d2] }
  | _ => none }
def StateSumsWrongFalsely : Prop := stateSumsRow.holds Tryd.pinned (OpenSpec.ofChange stateSumsWrong)

/-- 'pharoslaw19.StateDoes': WHATEVER THE INPUT: true; the input reads as it did. -/
def stateDoesSpec : ChangeSpec := { name := "stateDoes", fn := fun _ => fun
  | [d1, d2] => { results := [.lit (.bool true)], args := [d1, d2] }
  | _ => none }
def stateDoesRow : OpenClaim := { program := "ytcdjdnbdblpofaadoor", sum := "8c959f1e4fffd69d46751fe132fc821de76aecf294b5d420d4ce3ac0a5f2434a", func := "pharos/pharoslaw19.StateDoes", spec := "stateDoes", inPlace := ["internal/abi.NoEscape", "internal/bytealg.MakeNoZero", "math/bits.Sub64", "math/bits.Add64"], unfollowed := true, recurses := true, named := ["pharos/keccak.places", "pharos/keccak.turns", "pharos/keccak.constants"], plainKeys := false, apart := false, laid := [("pharos/keccak.constants", laid_pharos_keccak_constants), ("pharos/keccak.turns", laid_pharos_keccak_turns), ("pharos/keccak.places", laid_pharos_keccak_places)] }
def StateDoesSaid : Prop := stateDoesRow.holds Tryd.pinned (OpenSpec.ofChange stateDoesSpec)

/-- ITS FALSE NEIGHBOUR: 'it returns false'. Refute it at one input. -/
def stateDoesWrong : ChangeSpec := { name := "stateDoes", fn := fun _ => fun
  | [d1, d2] => { results := [.lit (.bool false)], args := [d1, d2] }
  | _ => none }
def StateDoesWrongFalsely : Prop := stateDoesRow.holds Tryd.pinned (OpenSpec.ofChange stateDoesWrong)

/-- 'pharoslaw19.StateBack': WHATEVER THE INPUT: true; the input reads as it did. -/
def stateBackSpec : ChangeSpec := { name := "stateBack", fn := fun _ => fun
  | [d1, d2, d3, d4, d5] => { results := [.lit (.bool true)], args := [d1, d2, d3, d4, d5] }
  | _ => none }
def stateBackRow : OpenClaim := { program := "ytcdjdnbdblpofaadoor", sum := "8c959f1e4fffd69d46751fe132fc821de76aecf294b5d420d4ce3ac0a5f2434a", func := "pharos/pharoslaw19.StateBack", spec := "stateBack", inPlace := ["internal/abi.NoEscape", "internal/bytealg.MakeNoZero", "math/bits.Sub64", "math/bits.Add64"], unfollowed := true, recurses := true, named := ["pharos/keccak.places", "pharos/keccak.turns", "pharos/keccak.constants"], plainKeys := false, apart := false, laid := [("pharos/keccak.constants", laid_pharos_keccak_constants), ("pharos/keccak.turns", laid_pharos_keccak_turns), ("pharos/keccak.places", laid_pharos_keccak_places)] }
def StateBackSaid : Prop := stateBackRow.holds Tryd.pinned (OpenSpec.ofChange stateBackSpec)

/-- ITS FALSE NEIGHBOUR: 'it returns false'. Refute it at one input. -/
def stateBackWrong : ChangeSpec := { name := "stateBack", fn := fun _ => fun
  | [d1, d2, d3, d4, d5] => { results := [.lit (.bool false)], args := [d1, d2, d3, d4, d5] }
  | _ => none }
def StateBackWrongFalsely : Prop := stateBackRow.holds Tryd.pinned (OpenSpec.ofChange stateBackWrong)

/-- 'pharoslaw19.StateNone': WHATEVER THE INPUT: true; the input reads as it did. -/
def stateNoneSpec : ChangeSpec := { name := "stateNone", fn := fun _ => fun
  | [d1, d2] => { results := [.lit (.bool true)], args := [d1, d2] }
  | _ => none }
def stateNoneRow : OpenClaim := { program := "ytcdjdnbdblpofaadoor", sum := "8c959f1e4fffd69d46751fe132fc821de76aecf294b5d420d4ce3ac0a5f2434a", func := "pharos/pharoslaw19.StateNone", spec := "stateNone", inPlace := ["internal/abi.NoEscape", "internal/bytealg.MakeNoZero", "math/bits.Sub64", "math/bits.Add64"], unfollowed := true, recurses := true, named := ["pharos/keccak.places", "pharos/keccak.turns", "pharos/keccak.constants"], plainKeys := false, apart := false, laid := [("pharos/keccak.constants", laid_pharos_keccak_constants), ("pharos/keccak.turns", laid_pharos_keccak_turns), ("pharos/keccak.places", laid_pharos_keccak_places)] }
def StateNoneSaid : Prop := stateNoneRow.holds Tryd.pinned (OpenSpec.ofChange stateNoneSpec)

/-- ITS FALSE NEIGHBOUR: 'it returns false'. Refute it at one input. -/
def stateNoneWrong : ChangeSpec := { name := "stateNone", fn := fun _ => fun
  | [d1, d2] => { results := [.lit (.bool false)], args := [d1, d2] }
  | _ => none }
def StateNoneWrongFalsely : Prop := stateNoneRow.holds Tryd.pinned (OpenSpec.ofChange stateNoneWrong)

/- THE SECOND FORM. 'bulk': how many values and letters a reading holds, each counted each time it is reached (what is shared counts as often as it is met; a slice's spare places count too). A statement '..UptoSaid' is the law's where the arguments, and the package variables that the reading takes, are together of bulk at most 1048576: NARROWER than '..Said'. Prove '..Said' where nothing that the law and all that it calls make is longer than what came in: it says more and counts as full. Else prove '..UptoSaid'. A law counts once. -/
mutual
def uptoBulk {H : Type} : DataW H → Nat
  | .lit (.string bytes) => bytes.length + 1
  | .lit _ => 1
  | .nil => 1
  | .ptr d => uptoBulk d + 1
  | .slice elems spare => uptoBulkAll elems + uptoBulkAll spare + 1
  | .agg parts => uptoBulkAll parts + 1
  | .iface _ d => uptoBulk d + 1
  | .map entries => uptoBulkEntries entries + 1
  | .held _ => 1
def uptoBulkAll {H : Type} : List (DataW H) → Nat
  | [] => 0
  | d :: r => uptoBulk d + uptoBulkAll r
def uptoBulkEntries {H : Type} : List (Lit × DataW H) → Nat
  | [] => 0
  | x :: r => uptoBulkEntry x + uptoBulkEntries r
def uptoBulkEntry {H : Type} : Lit × DataW H → Nat
  | (.string bytes, d) => bytes.length + uptoBulk d + 1
  | (_, d) => uptoBulk d + 1
 end
def uptoSmall : (H : Type) → List (DataW H) → Bool := fun _ ds => decide (uptoBulkAll ds ≤ 1048576)
def OpenSpec.upto (s : _root_.Go.ChangeSpec) : _root_.Go.OpenSpec := { _root_.Go.OpenSpec.ofChange s with cond := some uptoSmall }

/-- 'pharoslaw19.StateAsks', WHERE WHAT IT READS IS OF BULK AT MOST 1048576: true; the input reads as it did. -/
def stateAsksUptoRow : OpenClaim := { program := "ytcdjdnbdblpofaadoor", sum := "8c959f1e4fffd69d46751fe132fc821de76aecf294b5d420d4ce3ac0a5f2434a", func := "pharos/pharoslaw19.StateAsks", spec := "stateAsks", inPlace := ["internal/abi.NoEscape", "internal/bytealg.MakeNoZero"], unfollowed := true, recurses := true, named := ["pharos/keccak.places", "pharos/keccak.turns", "pharos/keccak.constants"], plainKeys := false, apart := false, laid := [("pharos/keccak.constants", laid_pharos_keccak_constants), ("pharos/keccak.turns", laid_pharos_keccak_turns), ("pharos/keccak.places", laid_pharos_keccak_places)], narrowed := true }
def StateAsksUptoSaid : Prop := stateAsksUptoRow.holds Tryd.pinned (OpenSpec.upto stateAsksSpec)

/-- 'pharoslaw19.StateLogs', WHERE WHAT IT READS IS OF BULK AT MOST 1048576: true; the input reads as it did. -/
def stateLogsUptoRow : OpenClaim := { program := "ytcdjdnbdblpofaadoor", sum := "8c959f1e4fffd69d46751fe132fc821de76aecf294b5d420d4ce3ac0a5f2434a", func := "pharos/pharoslaw19.StateLogs", spec := "stateLogs", inPlace := ["internal/abi.NoEscape", "internal/bytealg.MakeNoZero"], unfollowed := true, recurses := true, named := ["pharos/keccak.places", "pharos/keccak.turns", "pharos/keccak.constants"], plainKeys := false, apart := false, laid := [("pharos/keccak.constants", laid_pharos_keccak_constants), ("pharos/keccak.turns", laid_pharos_keccak_turns), ("pharos/keccak.places", laid_pharos_keccak_places)], narrowed := true }
def StateLogsUptoSaid : Prop := stateLogsUptoRow.holds Tryd.pinned (OpenSpec.upto stateLogsSpec)

/-- 'pharoslaw19.StateSums', WHERE WHAT IT READS IS OF BULK AT MOST 1048576: true; the input reads as it did. -/
def stateSumsUptoRow : OpenClaim := { program := "ytcdjdnbdblpofaadoor", sum := "8c959f1e4fffd69d46751fe132fc821de76aecf294b5d420d4ce3ac0a5f2434a", func := "pharos/pharoslaw19.StateSums", spec := "stateSums", inPlace := ["internal/abi.NoEscape", "internal/bytealg.MakeNoZero", "math/bits.Add64", "math/bits.Sub64"], unfollowed := true, recurses := true, named := ["pharos/keccak.places", "pharos/keccak.turns", "pharos/keccak.constants"], plainKeys := false, apart := false, laid := [("pharos/keccak.constants", laid_pharos_keccak_constants), ("pharos/keccak.turns", laid_pharos_keccak_turns), ("pharos/keccak.places", laid_pharos_keccak_places)], narrowed := true }
def StateSumsUptoSaid : Prop := stateSumsUptoRow.holds Tryd.pinned (OpenSpec.upto stateSumsSpec)

/-- 'pharoslaw19.StateDoes', WHERE WHAT IT READS IS OF BULK AT MOST 1048576: true; the input reads as it did. -/
def stateDoesUptoRow : OpenClaim := { program := "ytcdjdnbdblpofaadoor", sum := "8c959f1e4fffd69d46751fe132fc821de76aecf294b5d420d4ce3ac0a5f2434a", func := "pharos/pharoslaw19.StateDoes", spec := "stateDoes", inPlace := ["internal/abi.NoEscape", "internal/bytealg.MakeNoZero", "math/bits.Sub64", "math/bits.Add64"], unfollowed := true, recurses := true, named := ["pharos/keccak.places", "pharos/keccak.turns", "pharos/keccak.constants"], plainKeys := false, apart := false, laid := [("pharos/keccak.constants", laid_pharos_keccak_constants), ("pharos/keccak.turns", laid_pharos_keccak_turns), ("pharos/keccak.places", laid_pharos_keccak_places)], narrowed := true }
def StateDoesUptoSaid : Prop := stateDoesUptoRow.holds Tryd.pinned (OpenSpec.upto stateDoesSpec)

/-- 'pharoslaw19.StateBack', WHERE WHAT IT READS IS OF BULK AT MOST 1048576: true; the input reads as it did. -/
def stateBackUptoRow : OpenClaim := { program := "ytcdjdnbdblpofaadoor", sum := "8c959f1e4fffd69d46751fe132fc821de76aecf294b5d420d4ce3ac0a5f2434a", func := "pharos/pharoslaw19.StateBack", spec := "stateBack", inPlace := ["internal/abi.NoEscape", "internal/bytealg.MakeNoZero", "math/bits.Sub64", "math/bits.Add64"], unfollowed := true, recurses := true, named := ["pharos/keccak.places", "pharos/keccak.turns", "pharos/keccak.constants"], plainKeys := false, apart := false, laid := [("pharos/keccak.constants", laid_pharos_keccak_constants), ("pharos/keccak.turns", laid_pharos_keccak_turns), ("pharos/keccak.places", laid_pharos_keccak_places)], narrowed := true }
def StateBackUptoSaid : Prop := stateBackUptoRow.holds Tryd.pinned (OpenSpec.upto stateBackSpec)

/-- 'pharoslaw19.StateNone', WHERE WHAT IT READS IS OF BULK AT MOST 1048576: true; the input reads as it did. -/
def stateNoneUptoRow : OpenClaim := { program := "ytcdjdnbdblpofaadoor", sum := "8c959f1e4fffd69d46751fe132fc821de76aecf294b5d420d4ce3ac0a5f2434a", func := "pharos/pharoslaw19.StateNone", spec := "stateNone", inPlace := ["internal/abi.NoEscape", "internal/bytealg.MakeNoZero", "math/bits.Sub64", "math/bits.Add64"], unfollowed := true, recurses := true, named := ["pharos/keccak.places", "pharos/keccak.turns", "pharos/keccak.constants"], plainKeys := false, apart := false, laid := [("pharos/keccak.constants", laid_pharos_keccak_constants), ("pharos/keccak.turns", laid_pharos_keccak_turns), ("pharos/keccak.places", laid_pharos_keccak_places)], narrowed := true }
def StateNoneUptoSaid : Prop := stateNoneUptoRow.holds Tryd.pinned (OpenSpec.upto stateNoneSpec)

end Rows
end Go.Proofs.YtcdjdnbdblpofaaDoor
