/-
  Words of 256 bits as numbers and as four parts: plain facts. Conditions: none.
-/
import Derived.Below
import Derived.Lib.Hide
namespace Go.Proofs.YtijidnhaijdfaaaGreatDoor
open Go.RowKit

def M64 : Nat := 18446744073709551616
def Q256 : Nat := 115792089237316195423570985008687907853269984665640564039457584007913129639936
theorem Q256_eq : Q256 = M64 * M64 * M64 * M64 := by decide +kernel
theorem M64_pow : M64 = 2 ^ 64 := by decide +kernel
theorem Q256_pow : Q256 = 2 ^ 256 := by decide +kernel
theorem M64_pos : 0 < M64 := by decide +kernel
theorem Q256_pos : 0 < Q256 := by decide +kernel

/-- Part i of a number, of 64 bits. -/
def lb (n i : Nat) : Nat := n / M64 ^ i % M64

/-- A word's value in the model. -/
abbrev W4 (n : Nat) : Value := .agg #[.int .u64 (lb n 0 : Nat), .int .u64 (lb n 1 : Nat), .int .u64 (lb n 2 : Nat), .int .u64 (lb n 3 : Nat)]

theorem lb_lt (n i : Nat) : lb n i < M64 := Nat.mod_lt _ M64_pos

/-- The number of four parts. -/
def val4 (a b c d : Nat) : Nat := a + M64 * b + M64 * M64 * c + M64 * M64 * M64 * d

theorem lb_val4 {a b c d : Nat} (ha : a < M64) (hb : b < M64) (hc : c < M64) (hd : d < M64) :
    lb (val4 a b c d) 0 = a ∧ lb (val4 a b c d) 1 = b ∧ lb (val4 a b c d) 2 = c ∧ lb (val4 a b c d) 3 = d := by
  unfold val4 lb M64 at *
  refine ⟨?_, ?_, ?_, ?_⟩ <;> simp only [Nat.reducePow] <;> omega

theorem val4_lt {a b c d : Nat} (ha : a < M64) (hb : b < M64) (hc : c < M64) (hd : d < M64) : val4 a b c d < Q256 := by
  unfold val4 M64 Q256 at *
  omega

theorem val4_lb {n : Nat} (h : n < Q256) : val4 (lb n 0) (lb n 1) (lb n 2) (lb n 3) = n := by
  unfold val4 lb M64 Q256 at *
  simp only [Nat.reducePow]
  omega

theorem W4_val4 {a b c d : Nat} (ha : a < M64) (hb : b < M64) (hc : c < M64) (hd : d < M64) :
    W4 (val4 a b c d) = .agg #[.int .u64 (a : Nat), .int .u64 (b : Nat), .int .u64 (c : Nat), .int .u64 (d : Nat)] := by
  obtain ⟨h0, h1, h2, h3⟩ := lb_val4 ha hb hc hd
  rw [W4, h0, h1, h2, h3]

/-- A value that is the four parts of n. -/
theorem W4_eq {a b c d n : Nat} (ha : a < M64) (hb : b < M64) (hc : c < M64) (hd : d < M64) (h : val4 a b c d = n) :
    Value.agg #[.int .u64 (a : Nat), .int .u64 (b : Nat), .int .u64 (c : Nat), .int .u64 (d : Nat)] = W4 n := by
  rw [← h, W4_val4 ha hb hc hd]

theorem W4_zero : W4 0 = .agg #[.int .u64 0, .int .u64 0, .int .u64 0, .int .u64 0] := by
  have h := W4_val4 (a := 0) (b := 0) (c := 0) (d := 0) M64_pos M64_pos M64_pos M64_pos
  have : val4 0 0 0 0 = 0 := by decide +kernel
  rw [this] at h
  simpa using h

theorem lb_small {n : Nat} (h : n < M64) : lb n 0 = n ∧ lb n 1 = 0 ∧ lb n 2 = 0 ∧ lb n 3 = 0 := by
  have := lb_val4 h M64_pos M64_pos M64_pos
  have e : val4 n 0 0 0 = n := by unfold val4; omega
  rwa [e] at this

theorem lb_eq {n : Nat} (h : n < Q256) : n = lb n 0 + M64 * lb n 1 + M64 * M64 * lb n 2 + M64 * M64 * M64 * lb n 3 := (val4_lb h).symm

theorem lb_inj {a b : Nat} (ha : a < Q256) (hb : b < Q256) (h0 : lb a 0 = lb b 0) (h1 : lb a 1 = lb b 1) (h2 : lb a 2 = lb b 2) (h3 : lb a 3 = lb b 3) : a = b := by
  rw [← val4_lb ha, ← val4_lb hb, h0, h1, h2, h3]

theorem below_le {B : Nat} {w w' : World} (h : Below B w w') (hB : B ≤ w.heap.size) : B ≤ w'.heap.size := Nat.le_trans hB h.size

theorem mul_M (x : Nat) : M64 * x = 18446744073709551616 * x := rfl

/-- Is one below another one? -/
def ltB (a b : Nat) : Bool := decide (a < b)
/-- Is a word below 0, with its sign? -/
def negB (a : Nat) : Bool := decide (M64 * M64 * M64 * 9223372036854775808 ≤ a)
/-- The negative, if it is asked for. -/
def tnd (a : Nat) (y : Bool) : Nat := if y then (Q256 - a) % Q256 else a

theorem tnd_lt {a : Nat} (h : a < Q256) (y : Bool) : tnd a y < Q256 := by
  unfold tnd
  split
  · exact Nat.mod_lt _ Q256_pos
  · exact h

theorem ret_bool {x y : Bool} (h : x = y) : Ending.returned (.bool x) = .returned (.bool y) := by rw [h]

theorem ltB_3 {a b : Nat} (ha : a < Q256) (hb : b < Q256) (h : lb a 3 ≠ lb b 3) : decide (lb a 3 < lb b 3) = ltB a b := by
  have ea := lb_eq ha
  have eb := lb_eq hb
  have a0 := lb_lt a 0
  have a1 := lb_lt a 1
  have a2 := lb_lt a 2
  have b0 := lb_lt b 0
  have b1 := lb_lt b 1
  have b2 := lb_lt b 2
  unfold ltB
  generalize lb a 0 = x0 at *
  generalize lb a 1 = x1 at *
  generalize lb a 2 = x2 at *
  generalize lb a 3 = x3 at *
  generalize lb b 0 = y0 at *
  generalize lb b 1 = y1 at *
  generalize lb b 2 = y2 at *
  generalize lb b 3 = y3 at *
  unfold M64 at *
  rw [decide_eq_decide]
  omega

theorem ltB_2 {a b : Nat} (ha : a < Q256) (hb : b < Q256) (h3 : lb a 3 = lb b 3) (h : lb a 2 ≠ lb b 2) : decide (lb a 2 < lb b 2) = ltB a b := by
  have ea := lb_eq ha
  have eb := lb_eq hb
  have a0 := lb_lt a 0
  have a1 := lb_lt a 1
  have b0 := lb_lt b 0
  have b1 := lb_lt b 1
  unfold ltB
  generalize lb a 0 = x0 at *
  generalize lb a 1 = x1 at *
  generalize lb a 2 = x2 at *
  generalize lb a 3 = x3 at *
  generalize lb b 0 = y0 at *
  generalize lb b 1 = y1 at *
  generalize lb b 2 = y2 at *
  generalize lb b 3 = y3 at *
  unfold M64 at *
  rw [decide_eq_decide]
  omega

theorem ltB_1 {a b : Nat} (ha : a < Q256) (hb : b < Q256) (h3 : lb a 3 = lb b 3) (h2 : lb a 2 = lb b 2) (h : lb a 1 ≠ lb b 1) : decide (lb a 1 < lb b 1) = ltB a b := by
  have ea := lb_eq ha
  have eb := lb_eq hb
  have a0 := lb_lt a 0
  have b0 := lb_lt b 0
  unfold ltB
  generalize lb a 0 = x0 at *
  generalize lb a 1 = x1 at *
  generalize lb a 2 = x2 at *
  generalize lb a 3 = x3 at *
  generalize lb b 0 = y0 at *
  generalize lb b 1 = y1 at *
  generalize lb b 2 = y2 at *
  generalize lb b 3 = y3 at *
  unfold M64 at *
  rw [decide_eq_decide]
  omega

theorem ltB_0 {a b : Nat} (ha : a < Q256) (hb : b < Q256) (h3 : lb a 3 = lb b 3) (h2 : lb a 2 = lb b 2) (h1 : lb a 1 = lb b 1) : decide (lb a 0 < lb b 0) = ltB a b := by
  have ea := lb_eq ha
  have eb := lb_eq hb
  unfold ltB
  generalize lb a 0 = x0 at *
  generalize lb a 1 = x1 at *
  generalize lb a 2 = x2 at *
  generalize lb a 3 = x3 at *
  generalize lb b 0 = y0 at *
  generalize lb b 1 = y1 at *
  generalize lb b 2 = y2 at *
  generalize lb b 3 = y3 at *
  unfold M64 at *
  rw [decide_eq_decide]
  omega

theorem negB_lb {a : Nat} (h : a < Q256) : decide (9223372036854775808 ≤ lb a 3) = negB a := by
  have ea := lb_eq h
  have a0 := lb_lt a 0
  have a1 := lb_lt a 1
  have a2 := lb_lt a 2
  unfold negB
  generalize lb a 0 = x0 at *
  generalize lb a 1 = x1 at *
  generalize lb a 2 = x2 at *
  generalize lb a 3 = x3 at *
  unfold M64 at *
  rw [decide_eq_decide]
  omega

theorem wrap64_neg {a : Nat} (h : a < Q256) : decide (wrap64 ((lb a 3 : Nat) : Int) < 0) = negB a := by
  rw [← negB_lb h]
  have a3 := lb_lt a 3
  unfold M64 at a3
  unfold wrap64
  generalize lb a 3 = x3 at *
  rw [decide_eq_decide]
  omega

/-- Four sums with what is carried make one. -/
theorem sum4 {a b s0 s1 s2 s3 c0 c1 c2 c3 : Nat} (ha : a < Q256) (hb : b < Q256) (h0 : s0 < M64) (h1 : s1 < M64) (h2 : s2 < M64) (h3 : s3 < M64)
    (e0 : s0 + M64 * c0 = lb a 0 + lb b 0 + 0) (e1 : s1 + M64 * c1 = lb a 1 + lb b 1 + c0) (e2 : s2 + M64 * c2 = lb a 2 + lb b 2 + c1) (e3 : s3 + M64 * c3 = lb a 3 + lb b 3 + c2) :
    val4 s0 s1 s2 s3 = (a + b) % Q256 ∧ c3 = (a + b) / Q256 := by
  have ea := lb_eq ha
  have eb := lb_eq hb
  generalize lb a 0 = a0 at *
  generalize lb a 1 = a1 at *
  generalize lb a 2 = a2 at *
  generalize lb a 3 = a3 at *
  generalize lb b 0 = b0 at *
  generalize lb b 1 = b1 at *
  generalize lb b 2 = b2 at *
  generalize lb b 3 = b3 at *
  unfold val4 M64 Q256 at *
  omega

/-- Four differences with what is borrowed make one. -/
theorem sub4 {a b s0 s1 s2 s3 c0 c1 c2 c3 : Nat} (ha : a < Q256) (hb : b < Q256) (h0 : s0 < M64) (h1 : s1 < M64) (h2 : s2 < M64) (h3 : s3 < M64)
    (e0 : s0 + lb b 0 + 0 = lb a 0 + M64 * c0) (e1 : s1 + lb b 1 + c0 = lb a 1 + M64 * c1) (e2 : s2 + lb b 2 + c1 = lb a 2 + M64 * c2) (e3 : s3 + lb b 3 + c2 = lb a 3 + M64 * c3) :
    val4 s0 s1 s2 s3 = (a + Q256 - b) % Q256 := by
  have ea := lb_eq ha
  have eb := lb_eq hb
  generalize lb a 0 = a0 at *
  generalize lb a 1 = a1 at *
  generalize lb a 2 = a2 at *
  generalize lb a 3 = a3 at *
  generalize lb b 0 = b0 at *
  generalize lb b 1 = b1 at *
  generalize lb b 2 = b2 at *
  generalize lb b 3 = b3 at *
  unfold val4 M64 Q256 at *
  omega

end Go.Proofs.YtijidnhaijdfaaaGreatDoor
