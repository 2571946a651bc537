/-
  Texts of one proof, one behind the other. Conditions: each text's own line says them.
-/
import Derived.Test.YtijidnhaijdfaaaGreatDoorProg
import Derived.Test.YtijidnhaijdfaaaGreatDoorFlow
import Derived.Test.YtijidnhaijdfaaaGreatDoorFlow2
import Derived.Test.YtijidnhaijdfaaaGreatDoorBase
import Derived.WalkKit
import Derived.ProofKit
import Derived.WalkSpells
import Derived.Lib.Hide
import Derived.Laws.StructEq
import Derived.Test.YtijidnhaijdfaaaGreatDoorBits
import Derived.Test.YtijidnhaijdfaaaGreatDoorRange
import Derived.Laws.Cover3

/- Facts of a word's parts, taken out of the seat of the word laws. Conditions: none. -/
namespace Go.Proofs.YtijidnhaijdfaaaGreatDoor
open Go.RowKit
set_option linter.unusedSimpArgs false
set_option linter.unusedVariables false

theorem store_row {t : TypeId} {W : World} {k n n' j : Nat} (hj : j < 4) (h : rowW t W k n) (hne : ∀ i, i < 4 → i ≠ j → lb n' i = lb n i) : rowW t (W.setCell ⟨k, j, none⟩ (.int .u64 (lb n' j : Nat))) k n' := by
  have h1 := store1 h j (.int .u64 (lb n' j : Nat))
  have hc : j = 0 ∨ j = 1 ∨ j = 2 ∨ j = 3 := by omega
  unfold rowW
  rw [h1]
  rcases hc with rfl | rfl | rfl | rfl
  · rw [hne 1 (by decide) (by decide), hne 2 (by decide) (by decide), hne 3 (by decide) (by decide)]; rfl
  · rw [hne 0 (by decide) (by decide), hne 2 (by decide) (by decide), hne 3 (by decide) (by decide)]; rfl
  · rw [hne 0 (by decide) (by decide), hne 1 (by decide) (by decide), hne 3 (by decide) (by decide)]; rfl
  · rw [hne 0 (by decide) (by decide), hne 1 (by decide) (by decide), hne 2 (by decide) (by decide)]; rfl

theorem lb_testBit (n i t : Nat) : (lb n i).testBit t = (decide (t < 64) && n.testBit (64 * i + t)) := by
  rw [lb_bits, Nat.testBit_mod_two_pow, Nat.testBit_div_two_pow, Nat.add_comm t]

end Go.Proofs.YtijidnhaijdfaaaGreatDoor

/- Bytes of a number. Conditions: none. -/
namespace Go.Proofs.YtijidnhaijdfaaaGreatDoor
open Go.RowKit
set_option linter.unusedSimpArgs false
set_option linter.unusedVariables false

/-- Byte k of a number, the lowest first. -/
def byteOf (n k : Nat) : Nat := n / 256 ^ k % 256
theorem byteOf_lt (n k : Nat) : byteOf n k < 256 := Nat.mod_lt _ (by decide)

theorem byteOf_lb (n i k : Nat) (hk : k < 8) : lb n i / 2 ^ (8 * k) % 256 = byteOf n (8 * i + k) := by
  unfold byteOf
  rw [lb_bits, pow_split (8 * k) 64 (by omega), Nat.mod_mul_right_div_self, Nat.mod_mod_of_dvd _ ⟨2 ^ (56 - 8 * k), by rw [show (256 : Nat) = 2 ^ 8 by decide, ← Nat.pow_add]; congr 1; omega⟩, Nat.div_div_eq_div_mul, ← Nat.pow_add, show (256 : Nat) = 2 ^ 8 by decide, ← Nat.pow_mul]
  congr 3
  omega

end Go.Proofs.YtijidnhaijdfaaaGreatDoor

/- Nothing of its own. Conditions: none. -/
namespace Go.Proofs.YtijidnhaijdfaaaGreatDoor
open Go.RowKit
set_option linter.unusedSimpArgs false
set_option linter.unusedVariables false

end Go.Proofs.YtijidnhaijdfaaaGreatDoor
