/-
  What a round of Keccak computes, lane by lane: plain facts. Conditions: none.
-/
import Derived.Test.YtcdjdnbdblpofaaDoorKBase
namespace Go.Proofs.YtcdjdnbdblpofaaDoor
set_option linter.unusedVariables false

/-- The places to which lanes go, by how much they are turned, the rounds' constants. -/
def placesL : List Nat := [10, 7, 11, 17, 18, 3, 5, 16, 8, 21, 24, 4, 15, 23, 19, 13, 12, 2, 20, 14, 22, 9, 6, 1]
def turnsL : List Nat := [1, 3, 6, 10, 15, 21, 28, 36, 45, 55, 2, 14, 27, 41, 56, 8, 25, 43, 62, 18, 39, 61, 20, 44]
def rcL : List Nat := [1, 32898, 9223372036854808714, 9223372039002292224, 32907, 2147483649, 9223372039002292353, 9223372036854808585, 138, 136, 2147516425, 2147483658, 2147516555, 9223372036854775947, 9223372036854808713, 9223372036854808579, 9223372036854808578, 9223372036854775936, 32778, 9223372039002259466, 9223372039002292353, 9223372036854808704, 2147483649, 9223372039002292232]
/-- By how much each lane is turned. -/
def rotL : List Nat := [0, 1, 62, 28, 27, 36, 44, 6, 55, 20, 3, 10, 43, 25, 39, 41, 45, 15, 21, 8, 18, 2, 61, 56, 14]
/-- At which step a place is filled. -/
def posL : List Nat := [24, 23, 17, 5, 11, 6, 22, 1, 8, 21, 0, 2, 16, 15, 19, 12, 7, 3, 4, 14, 18, 9, 20, 13, 10]
def placesF (n : Nat) : Nat := placesL.getD n 0
def turnsF (n : Nat) : Nat := turnsL.getD n 0
def rcF (n : Nat) : Nat := rcL.getD n 0
def rotF (n : Nat) : Nat := rotL.getD n 0
def posF (n : Nat) : Nat := posL.getD n 24
/-- The lane that goes to a place. -/
def srcF (j : Nat) : Nat := (3 * (j / 5) + j % 5) % 5 + 5 * (j % 5)

theorem places_lt : ∀ n, n < 24 → placesF n < 25 := by decide
theorem turns_lt : ∀ n, n < 24 → turnsF n < 64 := by decide
theorem rot_lt : ∀ n, n < 25 → rotF n < 64 := by decide
theorem rc_lt : ∀ n, n < 24 → rcF n < M64 := by decide
theorem rc_all (n : Nat) : rcF n < M64 := by
  by_cases h : n < 24
  · exact rc_lt n h
  · have : rcF n = 0 := by
      unfold rcF
      rw [List.getD_eq_getElem?_getD, List.getElem?_eq_none (by simp [rcL]; omega)]
      rfl
    rw [this]
    exact M64_pos
theorem src_lt {j : Nat} (h : j < 25) : srcF j < 25 := by unfold srcF; omega
theorem pos_places : ∀ n, n < 24 → posF (placesF n) = n := by decide
theorem places_pos : ∀ j, j < 25 → posF j < 24 → placesF (posF j) = j := by decide
theorem src_places : ∀ n, n < 23 → srcF (placesF (n + 1)) = placesF n := by decide
theorem src_first : srcF (placesF 0) = 1 := by decide
theorem rot_turns : ∀ n, n < 24 → rotF (srcF (placesF n)) = turnsF n := by decide
theorem pos_zero : ∀ j, j < 25 → 24 ≤ posF j → j = 0 := by decide
theorem rot_first : rotF (srcF 0) = 0 ∧ srcF 0 = 0 := by decide

/-- All are lanes. -/
def LL (f : Nat → Nat) : Prop := ∀ j, f j < M64

/-- The first y lanes of a column together. -/
def colP (f : Nat → Nat) (x : Nat) : Nat → Nat
  | 0 => 0
  | y + 1 => colP f x y ^^^ f (x + 5 * y)
theorem colP_zero (f : Nat → Nat) (x : Nat) : colP f x 0 = 0 := rfl
theorem colP_succ (f : Nat → Nat) (x y : Nat) : colP f x (y + 1) = colP f x y ^^^ f (x + 5 * y) := rfl
theorem colP_lt {f : Nat → Nat} (h : LL f) (x : Nat) : ∀ y, colP f x y < M64
  | 0 => M64_pos
  | y + 1 => xor_lt (colP_lt h x y) (h _)
def colF (f : Nat → Nat) (x : Nat) : Nat := colP f x 5
theorem colF_lt {f : Nat → Nat} (h : LL f) (x : Nat) : colF f x < M64 := colP_lt h x 5

/-- The columns' sums behind n lanes. -/
def colN (f : Nat → Nat) (n : Nat) : Nat → Nat := fun x => colP f x ((n + 4 - x) / 5)
theorem colN_zero (f : Nat → Nat) : ∀ x, x < 5 → 0 = colN f 0 x := fun x hx => by
  unfold colN
  rw [show (0 + 4 - x) / 5 = 0 by omega, colP_zero]
theorem colN_succ (f : Nat → Nat) (n : Nat) : ∀ x, x < 5 → (if x = n % 5 then colN f n (n % 5) ^^^ f n else colN f n x) = colN f (n + 1) x := fun x hx => by
  unfold colN
  split
  · rename_i h
    subst h
    rw [show (n + 1 + 4 - n % 5) / 5 = (n + 4 - n % 5) / 5 + 1 by omega, colP_succ, show n % 5 + 5 * ((n + 4 - n % 5) / 5) = n by omega]
  · rename_i h
    rw [show (n + 1 + 4 - x) / 5 = (n + 4 - x) / 5 by omega]
theorem colN_all (f : Nat → Nat) : ∀ x, x < 5 → colN f 25 x = colF f x := fun x hx => by
  unfold colN colF
  rw [show (25 + 4 - x) / 5 = 5 by omega]
theorem colN_lt {f : Nat → Nat} (h : LL f) (n x : Nat) : colN f n x < M64 := colP_lt h x _

/-- The first step of a round. -/
def theF (f : Nat → Nat) (j : Nat) : Nat := f j ^^^ (colF f ((j + 4) % 5) ^^^ rotl (colF f ((j + 1) % 5)) 1)
theorem theF_lt {f : Nat → Nat} (h : LL f) : LL (theF f) := fun j => xor_lt (h j) (xor_lt (colF_lt h _) (rotl_lt (colF_lt h _)))
def theN (f : Nat → Nat) (n : Nat) : Nat → Nat := fun j => if j < n then theF f j else f j
theorem theN_zero (f : Nat → Nat) (j : Nat) : f j = theN f 0 j := by unfold theN; rw [if_neg (by omega)]
theorem theN_all (f : Nat → Nat) : ∀ j, j < 25 → theN f 25 j = theF f j := fun j hj => by unfold theN; rw [if_pos hj]
theorem theN_at (f : Nat → Nat) (n : Nat) : theN f n n = f n := by unfold theN; rw [if_neg (by omega)]
theorem theN_succ (f : Nat → Nat) (n j : Nat) : (if j = n then theF f n else theN f n j) = theN f (n + 1) j := by
  unfold theN
  by_cases h : j = n
  · subst h
    rw [if_pos rfl, if_pos (by omega)]
  · rw [if_neg h]
    by_cases h2 : j < n
    · rw [if_pos h2, if_pos (by omega)]
    · rw [if_neg h2, if_neg (by omega)]

/-- The second step: lanes turned and moved. -/
def rhoF (f : Nat → Nat) (j : Nat) : Nat := rotl (f (srcF j)) (rotF (srcF j))
theorem rhoF_lt {f : Nat → Nat} (h : LL f) : LL (rhoF f) := fun j => rotl_lt (h _)
/-- Behind n moves; the lane that is on its way. -/
def rhoN (f : Nat → Nat) (n : Nat) : Nat → Nat := fun j => if posF j < n then rhoF f j else f j
def rhoV (f : Nat → Nat) (n : Nat) : Nat := f (if n = 0 then 1 else placesF (n - 1))
theorem rhoN_zero (f : Nat → Nat) (j : Nat) : f j = rhoN f 0 j := by unfold rhoN; rw [if_neg (by omega)]
theorem rhoN_at {f : Nat → Nat} {n : Nat} (hn : n < 24) : rhoN f n (placesF n) = rhoV f (n + 1) := by
  unfold rhoN rhoV
  rw [pos_places n hn, if_neg (by omega), if_neg (by omega), Nat.add_sub_cancel]
theorem rhoV_next {f : Nat → Nat} {n : Nat} (hn : n < 24) : rotl (rhoV f n) (turnsF n) = rhoF f (placesF n) := by
  unfold rhoV rhoF
  rw [rot_turns n hn]
  congr 2
  cases n with
  | zero => rw [if_pos rfl, src_first]
  | succ n => rw [if_neg (by omega), src_places n (by omega), Nat.add_sub_cancel]
theorem rhoN_succ {f : Nat → Nat} {n : Nat} (hn : n < 24) : ∀ j, j < 25 → (if j = placesF n then rhoF f (placesF n) else rhoN f n j) = rhoN f (n + 1) j := fun j hj => by
  unfold rhoN
  by_cases h : j = placesF n
  · subst h
    rw [if_pos rfl, pos_places n hn, if_pos (by omega)]
  · rw [if_neg h]
    by_cases h2 : posF j < n
    · rw [if_pos h2, if_pos (by omega)]
    · rw [if_neg h2, if_neg]
      intro h3
      have h4 : posF j = n := by omega
      exact h (by rw [← h4, places_pos j hj (by omega)])
theorem rhoN_all {f : Nat → Nat} (hf : LL f) : ∀ j, j < 25 → rhoN f 24 j = rhoF f j := fun j hj => by
  unfold rhoN
  by_cases h : posF j < 24
  · rw [if_pos h]
  · rw [if_neg h]
    obtain rfl := pos_zero j hj (by omega)
    unfold rhoF
    rw [rot_first.1, rot_first.2, rotl_zero (hf 0)]
theorem rhoV_lt {f : Nat → Nat} (h : LL f) (n : Nat) : rhoV f n < M64 := h _

/-- The third step. -/
def chiF (f : Nat → Nat) (j : Nat) : Nat := f j ^^^ (notl (f (j / 5 * 5 + (j % 5 + 1) % 5)) &&& f (j / 5 * 5 + (j % 5 + 2) % 5))
theorem chiF_lt {f : Nat → Nat} (h : LL f) : LL (chiF f) := fun j => xor_lt (h j) (and_lt (notl_lt (h _)))
def chiN (f : Nat → Nat) (n : Nat) : Nat → Nat := fun j => if j < n then chiF f j else f j
theorem chiN_zero (f : Nat → Nat) (j : Nat) : f j = chiN f 0 j := by unfold chiN; rw [if_neg (by omega)]
theorem chiN_at {f : Nat → Nat} {n j : Nat} (h : n ≤ j) : chiN f n j = f j := by unfold chiN; rw [if_neg (by omega)]
theorem chiN_all (f : Nat → Nat) : ∀ j, j < 25 → chiN f 25 j = chiF f j := fun j hj => by unfold chiN; rw [if_pos hj]
theorem chiN_succ (f : Nat → Nat) (n j : Nat) : (if j = n then chiF f n else chiN f n j) = chiN f (n + 1) j := by
  unfold chiN
  by_cases h : j = n
  · subst h
    rw [if_pos rfl, if_pos (by omega)]
  · rw [if_neg h]
    by_cases h2 : j < n
    · rw [if_pos h2, if_pos (by omega)]
    · rw [if_neg h2, if_neg (by omega)]

/-- A round; all rounds up to one. -/
def rndF (i : Nat) (f : Nat → Nat) : Nat → Nat := fun j => if j = 0 then chiF (rhoF (theF f)) 0 ^^^ rcF i else chiF (rhoF (theF f)) j
theorem rndF_lt {f : Nat → Nat} (h : LL f) (i : Nat) : LL (rndF i f) := fun j => by
  unfold rndF
  split
  · exact xor_lt (chiF_lt (rhoF_lt (theF_lt h)) _) (rc_all i)
  · exact chiF_lt (rhoF_lt (theF_lt h)) _
def rnds (f : Nat → Nat) : Nat → (Nat → Nat)
  | 0 => f
  | i + 1 => rndF i (rnds f i)
theorem rnds_lt {f : Nat → Nat} (h : LL f) : ∀ i, LL (rnds f i)
  | 0 => h
  | i + 1 => rndF_lt (rnds_lt h i) i
theorem rnds_zero (f : Nat → Nat) : rnds f 0 = f := rfl
theorem rnds_succ (f : Nat → Nat) (i : Nat) : rnds f (i + 1) = rndF i (rnds f i) := rfl

/-- Bytes taken in: the first i of a block. -/
def takeB (f : Nat → Nat) (b : Nat → Nat) : Nat → (Nat → Nat)
  | 0 => f
  | i + 1 => fun j => if j = i / 8 then takeB f b i (i / 8) ^^^ b i * 2 ^ (8 * (i % 8)) else takeB f b i j
theorem takeB_zero (f b : Nat → Nat) : takeB f b 0 = f := rfl
theorem takeB_succ (f b : Nat → Nat) (i : Nat) : takeB f b (i + 1) = fun j => if j = i / 8 then takeB f b i (i / 8) ^^^ b i * 2 ^ (8 * (i % 8)) else takeB f b i j := rfl
theorem byte_lane {b k : Nat} (h : b < 256) : b * 2 ^ (8 * (k % 8)) < M64 := by
  have h1 : 2 ^ (8 * (k % 8)) ≤ 2 ^ 56 := Nat.pow_le_pow_right (by decide) (by omega)
  calc b * 2 ^ (8 * (k % 8)) ≤ 255 * 2 ^ 56 := Nat.mul_le_mul (by omega) h1
    _ < M64 := by decide
theorem takeB_lt {f b : Nat → Nat} (h : LL f) (hb : ∀ i, b i < 256) : ∀ i, LL (takeB f b i)
  | 0 => h
  | i + 1 => fun j => by
    rw [takeB_succ]
    show (if j = i / 8 then _ else _) < M64
    split
    · exact xor_lt (takeB_lt h hb i _) (byte_lane (hb i))
    · exact takeB_lt h hb i j
end Go.Proofs.YtcdjdnbdblpofaaDoor
