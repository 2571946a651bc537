/-
  Facts of a word's parts, taken out of the seat of the word laws. Conditions: none.
-/
import Derived.Test.YtcdjdnbdblpofaaDoorBase
import Derived.Test.YtcdjdnbdblpofaaDoorBits
import Derived.Test.YtcdjdnbdblpofaaDoorRange
namespace Go.Proofs.YtcdjdnbdblpofaaDoor
open Go.RowKit
set_option linter.unusedSimpArgs false
set_option linter.unusedVariables false

theorem store_row {t : TypeId} {W : World} {k n n' j : Nat} (hj : j < 4) (h : rowW t W k n) (hne : ∀ i, i < 4 → i ≠ j → lb n' i = lb n i) : rowW t (W.setCell ⟨k, j, none⟩ (.int .u64 (lb n' j : Nat))) k n' := by
  have h1 := store1 h j (.int .u64 (lb n' j : Nat))
  have hc : j = 0 ∨ j = 1 ∨ j = 2 ∨ j = 3 := by omega
  unfold rowW
  rw [h1]
  rcases hc with rfl | rfl | rfl | rfl
  · rw [hne 1 (by decide) (by decide), hne 2 (by decide) (by decide), hne 3 (by decide) (by decide)]; rfl
  · rw [hne 0 (by decide) (by decide), hne 2 (by decide) (by decide), hne 3 (by decide) (by decide)]; rfl
  · rw [hne 0 (by decide) (by decide), hne 1 (by decide) (by decide), hne 3 (by decide) (by decide)]; rfl
  · rw [hne 0 (by decide) (by decide), hne 1 (by decide) (by decide), hne 2 (by decide) (by decide)]; rfl

theorem lb_testBit (n i t : Nat) : (lb n i).testBit t = (decide (t < 64) && n.testBit (64 * i + t)) := by
  rw [lb_bits, Nat.testBit_mod_two_pow, Nat.testBit_div_two_pow, Nat.add_comm t]

end Go.Proofs.YtcdjdnbdblpofaaDoor
