/-
  No cell of these rows narrows 'for every input' (looked for: loops, veiled, ifaces, maps, wideKeys, modest, calm, conditions, laid).
  DERIVED. THE GIVEN ROWS OF THIS SEAT. 5 by the template 'for every input the law returns true; each argument reads behind the call as it read before'; 0 by the template 'total and deterministic' (their statements: YtbgeenkkdfbngaaTotals.lean).
  GIVEN WITH THE SEED: the statements are not yours to turn. If you find one false, say at which input.
  Laid BY PROGRAM, IN A SANDBOX (cutbox-rows.mjs): the forced cells as the released guide's own fill.sh prints them over the translation cf744b849acb53d9… (all of the seat's roots in one cut). By AI agents, Wed Nov 11 2026. No macro, syntax, notation, axiom, sorry.
-/
import Derived.Test.YtbgeenkkdfbngaaChecked
import GoSem.Claim
import GoSem.ClaimJoined
import GoSem.ClaimMapViews
import Derived.JoinedTies
import Derived.KernelRfl
namespace Go.Proofs.Ytbgeenkkdfbngaa
/- THE CELL 'sum', in the pinned program and in every row, IS THE sha256 OF THE DUMP (.gsa) THAT YtbgeenkkdfbngaaProg.lean LOADS. Nothing in Lean hashes anything: it is a label: what it is worth is what the hold of that sum in a sandbox is worth. -/
noncomputable def Try.pinned : Pinned := { name := "ytbgeenkkdfbngaa", sum := "cf744b849acb53d9e082f8efe416ce9c8839344fb2e583872aa7a642873259c9", checked := Try.checked }
namespace Rows
def none {H : Type} : Left H := { results := [], args := [] }

/-- 'pharoslaw18.MemoSums': WHATEVER THE INPUT: true; the input reads as it did. -/
def memoSumsSpec : ChangeSpec := { name := "memoSums", fn := fun _ => fun
  | [d1, d2, d3, d4, d5, d6] => { results := [.lit (.bool true)], args := [d1, d2, d3, d4, d5, d6] }
  | _ => none }
def memoSumsRow : OpenClaim := { program := "ytbgeenkkdfbngaa", sum := "cf744b849acb53d9e082f8efe416ce9c8839344fb2e583872aa7a642873259c9", func := "pharos/pharoslaw18.MemoSums", spec := "memoSums", inPlace := ["internal/abi.NoEscape", "internal/bytealg.MakeNoZero"], apart := false }
def MemoSumsSaid : Prop := memoSumsRow.holds Try.pinned (OpenSpec.ofChange memoSumsSpec)

/-- ITS FALSE NEIGHBOUR: 'it returns false'. Refute it at one input. -/
def memoSumsWrong : ChangeSpec := { name := "memoSums", fn := fun _ => fun
  | [d1, d2, d3, d4, d5, d6] => { results := [.lit (.bool false)], args := [d1, d2, d3, d4, d5, d6] }
  | _ => none }
def MemoSumsWrongFalsely : Prop := memoSumsRow.holds Try.pinned (OpenSpec.ofChange memoSumsWrong)

/-- 'pharoslaw18.MemoBack': WHATEVER THE INPUT: true; the input reads as it did. -/
def memoBackSpec : ChangeSpec := { name := "memoBack", fn := fun _ => fun
  | [d1, d2, d3, d4, d5] => { results := [.lit (.bool true)], args := [d1, d2, d3, d4, d5] }
  | _ => none }
def memoBackRow : OpenClaim := { program := "ytbgeenkkdfbngaa", sum := "cf744b849acb53d9e082f8efe416ce9c8839344fb2e583872aa7a642873259c9", func := "pharos/pharoslaw18.MemoBack", spec := "memoBack", inPlace := ["internal/abi.NoEscape", "internal/bytealg.MakeNoZero"], apart := false }
def MemoBackSaid : Prop := memoBackRow.holds Try.pinned (OpenSpec.ofChange memoBackSpec)

/-- ITS FALSE NEIGHBOUR: 'it returns false'. Refute it at one input. -/
def memoBackWrong : ChangeSpec := { name := "memoBack", fn := fun _ => fun
  | [d1, d2, d3, d4, d5] => { results := [.lit (.bool false)], args := [d1, d2, d3, d4, d5] }
  | _ => none }
def MemoBackWrongFalsely : Prop := memoBackRow.holds Try.pinned (OpenSpec.ofChange memoBackWrong)

/-- 'pharoslaw18.MemoLoads': WHATEVER THE INPUT: true; the input reads as it did. -/
def memoLoadsSpec : ChangeSpec := { name := "memoLoads", fn := fun _ => fun
  | [d1, d2, d3, d4, d5] => { results := [.lit (.bool true)], args := [d1, d2, d3, d4, d5] }
  | _ => none }
def memoLoadsRow : OpenClaim := { program := "ytbgeenkkdfbngaa", sum := "cf744b849acb53d9e082f8efe416ce9c8839344fb2e583872aa7a642873259c9", func := "pharos/pharoslaw18.MemoLoads", spec := "memoLoads", inPlace := ["internal/abi.NoEscape", "internal/bytealg.MakeNoZero"], apart := false }
def MemoLoadsSaid : Prop := memoLoadsRow.holds Try.pinned (OpenSpec.ofChange memoLoadsSpec)

/-- ITS FALSE NEIGHBOUR: 'it returns false'. Refute it at one input. -/
def memoLoadsWrong : ChangeSpec := { name := "memoLoads", fn := fun _ => fun
  | [d1, d2, d3, d4, d5] => { results := [.lit (.bool false)], args := [d1, d2, d3, d4, d5] }
  | _ => none }
def MemoLoadsWrongFalsely : Prop := memoLoadsRow.holds Try.pinned (OpenSpec.ofChange memoLoadsWrong)

/-- 'pharoslaw18.MemoCopies': WHATEVER THE INPUT: true; the input reads as it did. -/
def memoCopiesSpec : ChangeSpec := { name := "memoCopies", fn := fun _ => fun
  | [d1, d2, d3, d4, d5] => { results := [.lit (.bool true)], args := [d1, d2, d3, d4, d5] }
  | _ => none }
def memoCopiesRow : OpenClaim := { program := "ytbgeenkkdfbngaa", sum := "cf744b849acb53d9e082f8efe416ce9c8839344fb2e583872aa7a642873259c9", func := "pharos/pharoslaw18.MemoCopies", spec := "memoCopies", inPlace := ["internal/abi.NoEscape", "internal/bytealg.MakeNoZero"], unfollowed := true, recurses := true, apart := false }
def MemoCopiesSaid : Prop := memoCopiesRow.holds Try.pinned (OpenSpec.ofChange memoCopiesSpec)

/-- ITS FALSE NEIGHBOUR: 'it returns false'. Refute it at one input. -/
def memoCopiesWrong : ChangeSpec := { name := "memoCopies", fn := fun _ => fun
  | [d1, d2, d3, d4, d5] => { results := [.lit (.bool false)], args := [d1, d2, d3, d4, d5] }
  | _ => none }
def MemoCopiesWrongFalsely : Prop := memoCopiesRow.holds Try.pinned (OpenSpec.ofChange memoCopiesWrong)

/-- 'pharoslaw18.MemoBytes': WHATEVER THE INPUT: true; the input reads as it did. -/
def memoBytesSpec : ChangeSpec := { name := "memoBytes", fn := fun _ => fun
  | [d1, d2, d3, d4] => { results := [.lit (.bool true)], args := [d1, d2, d3, d4] }
  | _ => none }
def memoBytesRow : OpenClaim := { program := "ytbgeenkkdfbngaa", sum := "cf744b849acb53d9e082f8efe416ce9c8839344fb2e583872aa7a642873259c9", func := "pharos/pharoslaw18.MemoBytes", spec := "memoBytes", inPlace := ["internal/abi.NoEscape", "internal/bytealg.MakeNoZero"], unfollowed := true, recurses := true, apart := false }
def MemoBytesSaid : Prop := memoBytesRow.holds Try.pinned (OpenSpec.ofChange memoBytesSpec)

/-- ITS FALSE NEIGHBOUR: 'it returns false'. Refute it at one input. -/
def memoBytesWrong : ChangeSpec := { name := "memoBytes", fn := fun _ => fun
  | [d1, d2, d3, d4] => { results := [.lit (.bool false)], args := [d1, d2, d3, d4] }
  | _ => none }
def MemoBytesWrongFalsely : Prop := memoBytesRow.holds Try.pinned (OpenSpec.ofChange memoBytesWrong)

/- THE SECOND FORM. 'bulk': how many values and letters a reading holds, each counted each time it is reached (what is shared counts as often as it is met; a slice's spare places count too). A statement '..UptoSaid' is the law's where the arguments, and the package variables that the reading takes, are together of bulk at most 1048576: NARROWER than '..Said'. Prove '..Said' where nothing that the law and all that it calls make is longer than what came in: it says more and counts as full. Else prove '..UptoSaid'. A law counts once. -/
mutual
def uptoBulk {H : Type} : DataW H → Nat
  | .lit (.string bytes) => bytes.length + 1
  | .lit _ => 1
  | .nil => 1
  | .ptr d => uptoBulk d + 1
  | .slice elems spare => uptoBulkAll elems + uptoBulkAll spare + 1
  | .agg parts => uptoBulkAll parts + 1
  | .iface _ d => uptoBulk d + 1
  | .map entries => uptoBulkEntries entries + 1
  | .held _ => 1
def uptoBulkAll {H : Type} : List (DataW H) → Nat
  | [] => 0
  | d :: r => uptoBulk d + uptoBulkAll r
def uptoBulkEntries {H : Type} : List (Lit × DataW H) → Nat
  | [] => 0
  | x :: r => uptoBulkEntry x + uptoBulkEntries r
def uptoBulkEntry {H : Type} : Lit × DataW H → Nat
  | (.string bytes, d) => bytes.length + uptoBulk d + 1
  | (_, d) => uptoBulk d + 1
 end
def uptoSmall : (H : Type) → List (DataW H) → Bool := fun _ ds => decide (uptoBulkAll ds ≤ 1048576)
def OpenSpec.upto (s : _root_.Go.ChangeSpec) : _root_.Go.OpenSpec := { _root_.Go.OpenSpec.ofChange s with cond := some uptoSmall }

/-- 'pharoslaw18.MemoSums', WHERE WHAT IT READS IS OF BULK AT MOST 1048576: true; the input reads as it did. -/
def memoSumsUptoRow : OpenClaim := { program := "ytbgeenkkdfbngaa", sum := "cf744b849acb53d9e082f8efe416ce9c8839344fb2e583872aa7a642873259c9", func := "pharos/pharoslaw18.MemoSums", spec := "memoSums", inPlace := ["internal/abi.NoEscape", "internal/bytealg.MakeNoZero"], apart := false, narrowed := true }
def MemoSumsUptoSaid : Prop := memoSumsUptoRow.holds Try.pinned (OpenSpec.upto memoSumsSpec)

/-- 'pharoslaw18.MemoBack', WHERE WHAT IT READS IS OF BULK AT MOST 1048576: true; the input reads as it did. -/
def memoBackUptoRow : OpenClaim := { program := "ytbgeenkkdfbngaa", sum := "cf744b849acb53d9e082f8efe416ce9c8839344fb2e583872aa7a642873259c9", func := "pharos/pharoslaw18.MemoBack", spec := "memoBack", inPlace := ["internal/abi.NoEscape", "internal/bytealg.MakeNoZero"], apart := false, narrowed := true }
def MemoBackUptoSaid : Prop := memoBackUptoRow.holds Try.pinned (OpenSpec.upto memoBackSpec)

/-- 'pharoslaw18.MemoLoads', WHERE WHAT IT READS IS OF BULK AT MOST 1048576: true; the input reads as it did. -/
def memoLoadsUptoRow : OpenClaim := { program := "ytbgeenkkdfbngaa", sum := "cf744b849acb53d9e082f8efe416ce9c8839344fb2e583872aa7a642873259c9", func := "pharos/pharoslaw18.MemoLoads", spec := "memoLoads", inPlace := ["internal/abi.NoEscape", "internal/bytealg.MakeNoZero"], apart := false, narrowed := true }
def MemoLoadsUptoSaid : Prop := memoLoadsUptoRow.holds Try.pinned (OpenSpec.upto memoLoadsSpec)

/-- 'pharoslaw18.MemoCopies', WHERE WHAT IT READS IS OF BULK AT MOST 1048576: true; the input reads as it did. -/
def memoCopiesUptoRow : OpenClaim := { program := "ytbgeenkkdfbngaa", sum := "cf744b849acb53d9e082f8efe416ce9c8839344fb2e583872aa7a642873259c9", func := "pharos/pharoslaw18.MemoCopies", spec := "memoCopies", inPlace := ["internal/abi.NoEscape", "internal/bytealg.MakeNoZero"], unfollowed := true, recurses := true, apart := false, narrowed := true }
def MemoCopiesUptoSaid : Prop := memoCopiesUptoRow.holds Try.pinned (OpenSpec.upto memoCopiesSpec)

/-- 'pharoslaw18.MemoBytes', WHERE WHAT IT READS IS OF BULK AT MOST 1048576: true; the input reads as it did. -/
def memoBytesUptoRow : OpenClaim := { program := "ytbgeenkkdfbngaa", sum := "cf744b849acb53d9e082f8efe416ce9c8839344fb2e583872aa7a642873259c9", func := "pharos/pharoslaw18.MemoBytes", spec := "memoBytes", inPlace := ["internal/abi.NoEscape", "internal/bytealg.MakeNoZero"], unfollowed := true, recurses := true, apart := false, narrowed := true }
def MemoBytesUptoSaid : Prop := memoBytesUptoRow.holds Try.pinned (OpenSpec.upto memoBytesSpec)

end Rows
end Go.Proofs.Ytbgeenkkdfbngaa
