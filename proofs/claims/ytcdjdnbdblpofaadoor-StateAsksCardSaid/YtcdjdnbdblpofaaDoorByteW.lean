/-
  Bytes of a number. Conditions: none.
-/
import Derived.Test.YtcdjdnbdblpofaaDoorR1
namespace Go.Proofs.YtcdjdnbdblpofaaDoor
open Go.RowKit
set_option linter.unusedSimpArgs false
set_option linter.unusedVariables false

/-- Byte k of a number, the lowest first. -/
def byteOf (n k : Nat) : Nat := n / 256 ^ k % 256
theorem byteOf_lt (n k : Nat) : byteOf n k < 256 := Nat.mod_lt _ (by decide)

theorem byteOf_lb (n i k : Nat) (hk : k < 8) : lb n i / 2 ^ (8 * k) % 256 = byteOf n (8 * i + k) := by
  unfold byteOf
  rw [lb_bits, pow_split (8 * k) 64 (by omega), Nat.mod_mul_right_div_self, Nat.mod_mod_of_dvd _ ⟨2 ^ (56 - 8 * k), by rw [show (256 : Nat) = 2 ^ 8 by decide, ← Nat.pow_add]; congr 1; omega⟩, Nat.div_div_eq_div_mul, ← Nat.pow_add, show (256 : Nat) = 2 ^ 8 by decide, ← Nat.pow_mul]
  congr 3
  omega

end Go.Proofs.YtcdjdnbdblpofaaDoor
