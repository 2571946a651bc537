/-
  Bits of numbers, as a word's parts hold them: plain facts. Conditions: none.
-/
import Derived.Test.YtijidnhaijdfaaaGreatDoorBase
import Derived.Laws.BitsAllLaws
namespace Go.Proofs.YtijidnhaijdfaaaGreatDoor
open Go.RowKit

def bitOf (x n : Nat) : Nat := x / 2 ^ n % 2
theorem bitOf_le (x n : Nat) : bitOf x n ≤ 1 := by unfold bitOf; omega

theorem pow_split (k m : Nat) (h : k ≤ m) : 2 ^ m = 2 ^ k * 2 ^ (m - k) := by rw [← Nat.pow_add, Nat.add_sub_cancel' h]

theorem M64_pow_i (i : Nat) : M64 ^ i = 2 ^ (64 * i) := by rw [M64_pow, ← Nat.pow_mul]

theorem lb_bits (x i : Nat) : lb x i = x / 2 ^ (64 * i) % 2 ^ 64 := by unfold lb; rw [M64_pow_i, M64_pow]

theorem bit_of_lb (x i k : Nat) (hk : k < 64) : lb x i / 2 ^ k % 2 = bitOf x (64 * i + k) := by
  rw [lb_bits, pow_split k 64 (by omega), Nat.mod_mul_right_div_self, Nat.mod_mod_of_dvd _ ⟨2 ^ (63 - k), by rw [Nat.mul_comm, ← Nat.pow_succ, show (63 - k).succ = 64 - k by omega]⟩, Nat.div_div_eq_div_mul, ← Nat.pow_add]
  rfl

theorem and_one_nat (n : Nat) : n &&& 1 = n % 2 := Nat.and_one_is_mod n

theorem bit_and (x m : Nat) : bits .and .u64 (((lb x (m / 64) : Nat) : Int) / 2 ^ (m % 64)) 1 = ((bitOf x m : Nat) : Int) := by
  have h1 : (((lb x (m / 64) : Nat) : Int) / 2 ^ (m % 64)) = ((lb x (m / 64) / 2 ^ (m % 64) : Nat) : Int) := by push_cast; rfl
  have hlt : lb x (m / 64) / 2 ^ (m % 64) < 18446744073709551616 := Nat.lt_of_le_of_lt (Nat.div_le_self _ _) (lb_lt _ _)
  rw [h1, show (1 : Int) = ((1 : Nat) : Int) from rfl, u64_and_nat _ _ hlt (by omega), and_one_nat, bit_of_lb _ _ _ (Nat.mod_lt _ (by decide)), Nat.div_add_mod]

theorem bitOf_zero_lt {x m : Nat} (h : x < 2 ^ (m + 1)) (hb : bitOf x m = 0) : x < 2 ^ m := by
  unfold bitOf at hb
  have h1 : x / 2 ^ m < 2 := by rw [Nat.div_lt_iff_lt_mul (Nat.two_pow_pos m), Nat.mul_comm, ← Nat.pow_succ]; exact h
  have h2 : x / 2 ^ m = 0 := by
    clear h
    generalize x / 2 ^ m = y at *
    omega
  exact (Nat.div_eq_zero_iff_lt (Nat.two_pow_pos m)).1 h2

end Go.Proofs.YtijidnhaijdfaaaGreatDoor
