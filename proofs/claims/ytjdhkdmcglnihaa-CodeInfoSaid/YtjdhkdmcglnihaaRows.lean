/-
  No cell of these rows narrows 'for every input' (looked for: loops, veiled, ifaces, maps, wideKeys, modest, calm, conditions, laid).
  DERIVED. THE GIVEN ROWS OF THIS SEAT. 5 by the template 'for every input the law returns true; each argument reads behind the call as it read before'; 0 by the template 'total and deterministic' (their statements: YtjdhkdmcglnihaaTotals.lean).
  GIVEN WITH THE SEED: the statements are not yours to turn. If you find one false, say at which input.
  Laid BY PROGRAM, IN A SANDBOX (cutbox-rows.mjs): the forced cells as the released guide's own fill.sh prints them over the translation ded570300660b2ea… (all of the seat's roots in one cut). By AI agents, Wed Nov 11 2026. No macro, syntax, notation, axiom, sorry.
-/
import Derived.Test.YtjdhkdmcglnihaaChecked
import GoSem.Claim
import GoSem.ClaimJoined
import GoSem.ClaimMapViews
import Derived.JoinedTies
import Derived.KernelRfl
namespace Go.Proofs.Ytjdhkdmcglnihaa
/- THE CELL 'sum', in the pinned program and in every row, IS THE sha256 OF THE DUMP (.gsa) THAT YtjdhkdmcglnihaaProg.lean LOADS. Nothing in Lean hashes anything: it is a label: what it is worth is what the hold of that sum in a sandbox is worth. -/
noncomputable def Try.pinned : Pinned := { name := "ytjdhkdmcglnihaa", sum := "ded570300660b2ea1b1ef6b374eae9c6ab6098fd47bc0f0f8909a534a60ea664", checked := Try.checked }
namespace Rows
def none {H : Type} : Left H := { results := [], args := [] }

/-- 'pharoslaw17.CodeAt': WHATEVER THE INPUT: true; the input reads as it did. -/
def codeAtSpec : ChangeSpec := { name := "codeAt", fn := fun _ => fun
  | [d1, d2] => { results := [.lit (.bool true)], args := [d1, d2] }
  | _ => none }
def codeAtRow : OpenClaim := { program := "ytjdhkdmcglnihaa", sum := "ded570300660b2ea1b1ef6b374eae9c6ab6098fd47bc0f0f8909a534a60ea664", func := "pharos/pharoslaw17.CodeAt", spec := "codeAt", inPlace := ["internal/abi.NoEscape", "internal/bytealg.MakeNoZero"], unfollowed := true, recurses := true, apart := false }
def CodeAtSaid : Prop := codeAtRow.holds Try.pinned (OpenSpec.ofChange codeAtSpec)

/-- ITS FALSE NEIGHBOUR: 'it returns false'. Refute it at one input. -/
def codeAtWrong : ChangeSpec := { name := "codeAt", fn := fun _ => fun
  | [d1, d2] => { results := [.lit (.bool false)], args := [d1, d2] }
  | _ => none }
def CodeAtWrongFalsely : Prop := codeAtRow.holds Try.pinned (OpenSpec.ofChange codeAtWrong)

/-- 'pharoslaw17.CodeJumps': WHATEVER THE INPUT: true; the input reads as it did. -/
def codeJumpsSpec : ChangeSpec := { name := "codeJumps", fn := fun _ => fun
  | [d] => { results := [.lit (.bool true)], args := [d] }
  | _ => none }
def codeJumpsRow : OpenClaim := { program := "ytjdhkdmcglnihaa", sum := "ded570300660b2ea1b1ef6b374eae9c6ab6098fd47bc0f0f8909a534a60ea664", func := "pharos/pharoslaw17.CodeJumps", spec := "codeJumps", inPlace := ["internal/abi.NoEscape", "internal/bytealg.MakeNoZero"], unfollowed := true, recurses := true, apart := false }
def CodeJumpsSaid : Prop := codeJumpsRow.holds Try.pinned (OpenSpec.ofChange codeJumpsSpec)

/-- ITS FALSE NEIGHBOUR: 'it returns false'. Refute it at one input. -/
def codeJumpsWrong : ChangeSpec := { name := "codeJumps", fn := fun _ => fun
  | [d] => { results := [.lit (.bool false)], args := [d] }
  | _ => none }
def CodeJumpsWrongFalsely : Prop := codeJumpsRow.holds Try.pinned (OpenSpec.ofChange codeJumpsWrong)

/-- 'pharoslaw17.CodeBoth': WHATEVER THE INPUT: true; the input reads as it did. -/
def codeBothSpec : ChangeSpec := { name := "codeBoth", fn := fun _ => fun
  | [d1, d2] => { results := [.lit (.bool true)], args := [d1, d2] }
  | _ => none }
def codeBothRow : OpenClaim := { program := "ytjdhkdmcglnihaa", sum := "ded570300660b2ea1b1ef6b374eae9c6ab6098fd47bc0f0f8909a534a60ea664", func := "pharos/pharoslaw17.CodeBoth", spec := "codeBoth", inPlace := ["internal/abi.NoEscape", "internal/bytealg.MakeNoZero"], unfollowed := true, recurses := true, apart := false }
def CodeBothSaid : Prop := codeBothRow.holds Try.pinned (OpenSpec.ofChange codeBothSpec)

/-- ITS FALSE NEIGHBOUR: 'it returns false'. Refute it at one input. -/
def codeBothWrong : ChangeSpec := { name := "codeBoth", fn := fun _ => fun
  | [d1, d2] => { results := [.lit (.bool false)], args := [d1, d2] }
  | _ => none }
def CodeBothWrongFalsely : Prop := codeBothRow.holds Try.pinned (OpenSpec.ofChange codeBothWrong)

/-- 'pharoslaw17.CodeInfo': WHATEVER THE INPUT: true; the input reads as it did. -/
def codeInfoSpec : ChangeSpec := { name := "codeInfo", fn := fun _ => fun
  | [d] => { results := [.lit (.bool true)], args := [d] }
  | _ => none }
def codeInfoRow : OpenClaim := { program := "ytjdhkdmcglnihaa", sum := "ded570300660b2ea1b1ef6b374eae9c6ab6098fd47bc0f0f8909a534a60ea664", func := "pharos/pharoslaw17.CodeInfo", spec := "codeInfo", inPlace := ["internal/abi.NoEscape", "internal/bytealg.MakeNoZero", "internal/bytealg.IndexByteString"], unfollowed := true, recurses := true, apart := false }
def CodeInfoSaid : Prop := codeInfoRow.holds Try.pinned (OpenSpec.ofChange codeInfoSpec)

/-- ITS FALSE NEIGHBOUR: 'it returns false'. Refute it at one input. -/
def codeInfoWrong : ChangeSpec := { name := "codeInfo", fn := fun _ => fun
  | [d] => { results := [.lit (.bool false)], args := [d] }
  | _ => none }
def CodeInfoWrongFalsely : Prop := codeInfoRow.holds Try.pinned (OpenSpec.ofChange codeInfoWrong)

/-- 'pharoslaw17.CodeNexts': WHATEVER THE INPUT: true; the input reads as it did. -/
def codeNextsSpec : ChangeSpec := { name := "codeNexts", fn := fun _ => fun
  | [d1, d2] => { results := [.lit (.bool true)], args := [d1, d2] }
  | _ => none }
def codeNextsRow : OpenClaim := { program := "ytjdhkdmcglnihaa", sum := "ded570300660b2ea1b1ef6b374eae9c6ab6098fd47bc0f0f8909a534a60ea664", func := "pharos/pharoslaw17.CodeNexts", spec := "codeNexts", inPlace := ["internal/abi.NoEscape", "internal/bytealg.MakeNoZero", "internal/bytealg.IndexByteString"], unfollowed := true, recurses := true, apart := false }
def CodeNextsSaid : Prop := codeNextsRow.holds Try.pinned (OpenSpec.ofChange codeNextsSpec)

/-- ITS FALSE NEIGHBOUR: 'it returns false'. Refute it at one input. -/
def codeNextsWrong : ChangeSpec := { name := "codeNexts", fn := fun _ => fun
  | [d1, d2] => { results := [.lit (.bool false)], args := [d1, d2] }
  | _ => none }
def CodeNextsWrongFalsely : Prop := codeNextsRow.holds Try.pinned (OpenSpec.ofChange codeNextsWrong)

/- THE SECOND FORM. 'bulk': how many values and letters a reading holds, each counted each time it is reached (what is shared counts as often as it is met; a slice's spare places count too). A statement '..UptoSaid' is the law's where the arguments, and the package variables that the reading takes, are together of bulk at most 1048576: NARROWER than '..Said'. Prove '..Said' where nothing that the law and all that it calls make is longer than what came in: it says more and counts as full. Else prove '..UptoSaid'. A law counts once. -/
mutual
def uptoBulk {H : Type} : DataW H → Nat
  | .lit (.string bytes) => bytes.length + 1
  | .lit _ => 1
  | .nil => 1
  | .ptr d => uptoBulk d + 1
  | .slice elems spare => uptoBulkAll elems + uptoBulkAll spare + 1
  | .agg parts => uptoBulkAll parts + 1
  | .iface _ d => uptoBulk d + 1
  | .map entries => uptoBulkEntries entries + 1
  | .held _ => 1
def uptoBulkAll {H : Type} : List (DataW H) → Nat
  | [] => 0
  | d :: r => uptoBulk d + uptoBulkAll r
def uptoBulkEntries {H : Type} : List (Lit × DataW H) → Nat
  | [] => 0
  | x :: r => uptoBulkEntry x + uptoBulkEntries r
def uptoBulkEntry {H : Type} : Lit × DataW H → Nat
  | (.string bytes, d) => bytes.length + uptoBulk d + 1
  | (_, d) => uptoBulk d + 1
 end
def uptoSmall : (H : Type) → List (DataW H) → Bool := fun _ ds => decide (uptoBulkAll ds ≤ 1048576)
def OpenSpec.upto (s : _root_.Go.ChangeSpec) : _root_.Go.OpenSpec := { _root_.Go.OpenSpec.ofChange s with cond := some uptoSmall }

/-- 'pharoslaw17.CodeAt', WHERE WHAT IT READS IS OF BULK AT MOST 1048576: true; the input reads as it did. -/
def codeAtUptoRow : OpenClaim := { program := "ytjdhkdmcglnihaa", sum := "ded570300660b2ea1b1ef6b374eae9c6ab6098fd47bc0f0f8909a534a60ea664", func := "pharos/pharoslaw17.CodeAt", spec := "codeAt", inPlace := ["internal/abi.NoEscape", "internal/bytealg.MakeNoZero"], unfollowed := true, recurses := true, apart := false, narrowed := true }
def CodeAtUptoSaid : Prop := codeAtUptoRow.holds Try.pinned (OpenSpec.upto codeAtSpec)

/-- 'pharoslaw17.CodeJumps', WHERE WHAT IT READS IS OF BULK AT MOST 1048576: true; the input reads as it did. -/
def codeJumpsUptoRow : OpenClaim := { program := "ytjdhkdmcglnihaa", sum := "ded570300660b2ea1b1ef6b374eae9c6ab6098fd47bc0f0f8909a534a60ea664", func := "pharos/pharoslaw17.CodeJumps", spec := "codeJumps", inPlace := ["internal/abi.NoEscape", "internal/bytealg.MakeNoZero"], unfollowed := true, recurses := true, apart := false, narrowed := true }
def CodeJumpsUptoSaid : Prop := codeJumpsUptoRow.holds Try.pinned (OpenSpec.upto codeJumpsSpec)

/-- 'pharoslaw17.CodeBoth', WHERE WHAT IT READS IS OF BULK AT MOST 1048576: true; the input reads as it did. -/
def codeBothUptoRow : OpenClaim := { program := "ytjdhkdmcglnihaa", sum := "ded570300660b2ea1b1ef6b374eae9c6ab6098fd47bc0f0f8909a534a60ea664", func := "pharos/pharoslaw17.CodeBoth", spec := "codeBoth", inPlace := ["internal/abi.NoEscape", "internal/bytealg.MakeNoZero"], unfollowed := true, recurses := true, apart := false, narrowed := true }
def CodeBothUptoSaid : Prop := codeBothUptoRow.holds Try.pinned (OpenSpec.upto codeBothSpec)

/-- 'pharoslaw17.CodeInfo', WHERE WHAT IT READS IS OF BULK AT MOST 1048576: true; the input reads as it did. -/
def codeInfoUptoRow : OpenClaim := { program := "ytjdhkdmcglnihaa", sum := "ded570300660b2ea1b1ef6b374eae9c6ab6098fd47bc0f0f8909a534a60ea664", func := "pharos/pharoslaw17.CodeInfo", spec := "codeInfo", inPlace := ["internal/abi.NoEscape", "internal/bytealg.MakeNoZero", "internal/bytealg.IndexByteString"], unfollowed := true, recurses := true, apart := false, narrowed := true }
def CodeInfoUptoSaid : Prop := codeInfoUptoRow.holds Try.pinned (OpenSpec.upto codeInfoSpec)

/-- 'pharoslaw17.CodeNexts', WHERE WHAT IT READS IS OF BULK AT MOST 1048576: true; the input reads as it did. -/
def codeNextsUptoRow : OpenClaim := { program := "ytjdhkdmcglnihaa", sum := "ded570300660b2ea1b1ef6b374eae9c6ab6098fd47bc0f0f8909a534a60ea664", func := "pharos/pharoslaw17.CodeNexts", spec := "codeNexts", inPlace := ["internal/abi.NoEscape", "internal/bytealg.MakeNoZero", "internal/bytealg.IndexByteString"], unfollowed := true, recurses := true, apart := false, narrowed := true }
def CodeNextsUptoSaid : Prop := codeNextsUptoRow.holds Try.pinned (OpenSpec.upto codeNextsSpec)

end Rows
end Go.Proofs.Ytjdhkdmcglnihaa
