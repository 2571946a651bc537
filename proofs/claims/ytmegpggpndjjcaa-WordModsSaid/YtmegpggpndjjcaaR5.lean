/-
  Contracts of the document's product of words: sixteen parts of 32 bits. Conditions: none.
-/
import Derived.Test.YtmegpggpndjjcaaProd
namespace Go.Proofs.Ytmegpggpndjjcaa
open Go.RowKit
attribute [local go_sem] leftBy
set_option linter.unusedSimpArgs false
set_option linter.unusedVariables false


def B32 : Nat := 4294967296
theorem B32_pos : 0 < B32 := by decide
theorem B32_eight : B32 ^ 8 = Q256 := by decide +kernel
/-- Part j of a number, of 32 bits. -/
def dg (n j : Nat) : Nat := n / B32 ^ j % B32
theorem dg_lt (n j : Nat) : dg n j < B32 := Nat.mod_lt _ B32_pos

theorem Bj_pos (j : Nat) : 0 < B32 ^ j := Nat.pow_pos B32_pos

theorem dg_mod {n j i : Nat} : dg (n % B32 ^ j) i = if i < j then dg n i else 0 := by
  unfold dg
  split
  · rename_i h
    obtain ⟨k, rfl⟩ : ∃ k, j = i + (1 + k) := ⟨j - (i + 1), by omega⟩
    rw [Nat.pow_add, Nat.mod_mul_right_div_self, Nat.mod_mod_of_dvd _ ⟨B32 ^ k, by rw [Nat.pow_add, Nat.pow_one]⟩]
  · rename_i h
    rw [Nat.div_eq_of_lt (Nat.lt_of_lt_of_le (Nat.mod_lt _ (Bj_pos j)) (Nat.pow_le_pow_right B32_pos (by omega))), Nat.zero_mod]

/-- n, its part j being v. -/
def setG (n j v : Nat) : Nat := n % B32 ^ j + B32 ^ j * (v + B32 * (n / B32 ^ (j + 1)))

theorem dg_setG {n j v : Nat} (hv : v < B32) (i : Nat) : dg (setG n j v) i = if i = j then v else dg n i := by
  have hA := Nat.mod_lt n (Bj_pos j)
  have hpos := Bj_pos j
  rcases Nat.lt_trichotomy i j with h | h | h
  · rw [if_neg (by omega)]
    have e1 : setG n j v % B32 ^ j = n % B32 ^ j := by unfold setG; rw [Nat.add_mul_mod_self_left, Nat.mod_mod]
    have e2 := dg_mod (n := setG n j v) (j := j) (i := i)
    have e3 := dg_mod (n := n) (j := j) (i := i)
    rw [if_pos h] at e2 e3
    rw [← e2, ← e3, e1]
  · subst h
    rw [if_pos rfl]
    unfold setG dg
    rw [Nat.add_mul_div_left _ _ hpos, Nat.div_eq_of_lt hA, Nat.zero_add, Nat.add_mul_mod_self_left, Nat.mod_eq_of_lt hv]
  · rw [if_neg (by omega)]
    obtain ⟨r, rfl⟩ : ∃ r, i = j + 1 + r := ⟨i - (j + 1), by omega⟩
    unfold setG dg
    rw [Nat.pow_add B32 (j + 1) r, Nat.pow_succ, Nat.mul_assoc, ← Nat.div_div_eq_div_mul, Nat.add_mul_div_left _ _ hpos, Nat.div_eq_of_lt hA, Nat.zero_add, ← Nat.div_div_eq_div_mul, Nat.add_mul_div_left _ _ B32_pos, Nat.div_eq_of_lt hv, Nat.zero_add, ← Nat.pow_succ, Nat.div_div_eq_div_mul n, ← Nat.mul_assoc, ← Nat.pow_succ]

theorem setG_add (n j v : Nat) : setG n j v + dg n j * B32 ^ j = n + v * B32 ^ j := by
  have h1 := Nat.mod_add_div n (B32 ^ j)
  have h2 := Nat.mod_add_div (n / B32 ^ j) B32
  have h3 : n / B32 ^ j / B32 = n / B32 ^ (j + 1) := by rw [Nat.div_div_eq_div_mul, Nat.pow_succ]
  rw [h3] at h2
  unfold setG dg
  generalize n / B32 ^ (j + 1) = z at *
  generalize n / B32 ^ j % B32 = l at *
  generalize n / B32 ^ j = y at *
  generalize n % B32 ^ j = r at *
  grind

theorem setG_lt {n j v p : Nat} (hv : v < B32) (hj : j < p) (hn : n < B32 ^ p) : setG n j v < B32 ^ p := by
  obtain ⟨q, rfl⟩ : ∃ q, p = j + 1 + q := ⟨p - (j + 1), by omega⟩
  have hz : n / B32 ^ (j + 1) < B32 ^ q := (Nat.div_lt_iff_lt_mul (Bj_pos _)).2 (by rw [Nat.mul_comm, ← Nat.pow_add]; exact hn)
  have hr := Nat.mod_lt n (Bj_pos j)
  unfold setG
  have h1 : v + B32 * (n / B32 ^ (j + 1)) + 1 ≤ B32 * B32 ^ q := by
    have := Nat.mul_le_mul_left B32 (Nat.succ_le_of_lt hz)
    rw [Nat.mul_succ] at this
    omega
  have h2 := Nat.mul_le_mul_left (B32 ^ j) h1
  rw [Nat.mul_add, Nat.mul_one, ← Nat.mul_assoc, ← Nat.pow_succ, ← Nat.pow_add, Nat.succ_eq_add_one] at h2
  omega

theorem prodG_next {a b m m' o o' x y mj l i k : Nat} (hE : m + o * B32 ^ (i + k) = a + x * (B32 ^ i * (b % B32 ^ k))) (hs : l + B32 * o' = x * y + mj + o) (hm : m' + mj * B32 ^ (i + k) = m + l * B32 ^ (i + k)) (hy : b / B32 ^ k % B32 = y) :
    m' + o' * B32 ^ (i + (k + 1)) = a + x * (B32 ^ i * (b % B32 ^ (k + 1))) := by
  have e : b % B32 ^ (k + 1) = b % B32 ^ k + B32 ^ k * y := by rw [Nat.mod_pow_succ, hy]
  rw [e, ← Nat.add_assoc i k 1, Nat.pow_succ, Nat.pow_add] at *
  generalize b % B32 ^ k = r at *
  generalize B32 ^ i = I at *
  generalize B32 ^ k = K at *
  grind

theorem prodG_lt {a b i : Nat} (hb : b < Q256) : a % B32 ^ i * b < B32 ^ (i + 8) := by
  rw [Nat.pow_add, B32_eight]
  exact Nat.mul_lt_mul'' (Nat.mod_lt _ (Bj_pos i)) hb

theorem prodG_last {a b m o x i : Nat} (hb : b < B32 ^ 8) (hE : m + o * B32 ^ (i + 8) = a % B32 ^ i * b + x * (B32 ^ i * (b % B32 ^ 8))) (hm : m < B32 ^ (i + 8)) (hx : a / B32 ^ i % B32 = x) : setG m (i + 8) o = a % B32 ^ (i + 1) * b := by
  have e : a % B32 ^ (i + 1) = a % B32 ^ i + B32 ^ i * x := by rw [Nat.mod_pow_succ, hx]
  have h1 : setG m (i + 8) o = m + B32 ^ (i + 8) * o := by
    unfold setG
    rw [Nat.mod_eq_of_lt hm, Nat.div_eq_of_lt (Nat.lt_of_lt_of_le hm (Nat.pow_le_pow_right B32_pos (by omega))), Nat.mul_zero]
    simp
  rw [Nat.mod_eq_of_lt hb] at hE
  rw [h1, e]
  generalize B32 ^ (i + 8) = P at *
  generalize B32 ^ i = I at *
  grind

/-- Block k holds 8 parts of 32 bits of n. -/
def row8d (W : World) (k n : Nat) : Prop := W.heap[k]? = some (.cells #[.int .u64 (dg n 0 : Nat), .int .u64 (dg n 1 : Nat), .int .u64 (dg n 2 : Nat), .int .u64 (dg n 3 : Nat), .int .u64 (dg n 4 : Nat), .int .u64 (dg n 5 : Nat), .int .u64 (dg n 6 : Nat), .int .u64 (dg n 7 : Nat)] 54 (0, 0))
theorem row8d.lt {W : World} {k n : Nat} (h : row8d W k n) : k < W.heap.size := (Array.getElem?_eq_some_iff.1 h).1
theorem row8d.below {W W' : World} {k n B : Nat} (h : row8d W k n) (hb : Below B W W') (hk : k < B) : row8d W' k n := (hb.block k hk).trans h
theorem row8d.alloc {W : World} {k n : Nat} (h : row8d W k n) (o : Obj) : row8d (W.alloc o) k n := (Below.heap_alloc W o k h.lt).trans h
theorem row8d.drewN {W : World} {k n : Nat} (h : row8d W k n) (m : Nat) : row8d (W.drewN m) k n := h
theorem row8d.set {W : World} {k n p j : Nat} {v : Value} (h : row8d W k n) (hk : k ≠ p) : row8d (W.setCell ⟨p, j, none⟩ v) k n := (heap_set_ne hk).trans h
set_option maxRecDepth 20000 in
theorem row8d.cellAt {W : World} {k n j : Nat} (h : row8d W k n) (hj : j < 8) : W.cell? ⟨k, j, none⟩ = some (.int .u64 (dg n j : Nat)) := by
  rw [cell_of_row W k j _ _ _ h]
  have : j = 0 ∨ j = 1 ∨ j = 2 ∨ j = 3 ∨ j = 4 ∨ j = 5 ∨ j = 6 ∨ j = 7 := by omega
  rcases this with rfl | rfl | rfl | rfl | rfl | rfl | rfl | rfl <;> rfl
set_option maxRecDepth 20000 in
theorem row8d.cells {W : World} {k n : Nat} (h : row8d W k n) : W.cell? ⟨k, 0, none⟩ = some (.int .u64 (dg n 0 : Nat)) ∧ W.cell? ⟨k, 1, none⟩ = some (.int .u64 (dg n 1 : Nat)) ∧ W.cell? ⟨k, 2, none⟩ = some (.int .u64 (dg n 2 : Nat)) ∧ W.cell? ⟨k, 3, none⟩ = some (.int .u64 (dg n 3 : Nat)) ∧ W.cell? ⟨k, 4, none⟩ = some (.int .u64 (dg n 4 : Nat)) ∧ W.cell? ⟨k, 5, none⟩ = some (.int .u64 (dg n 5 : Nat)) ∧ W.cell? ⟨k, 6, none⟩ = some (.int .u64 (dg n 6 : Nat)) ∧ W.cell? ⟨k, 7, none⟩ = some (.int .u64 (dg n 7 : Nat)) := ⟨h.cellAt (by decide), h.cellAt (by decide), h.cellAt (by decide), h.cellAt (by decide), h.cellAt (by decide), h.cellAt (by decide), h.cellAt (by decide), h.cellAt (by decide)⟩
set_option maxRecDepth 20000 in
theorem row8d.free {W : World} {k n : Nat} (h : row8d W k n) (j : Nat) : W.frozen? ⟨k, j, none⟩ = false := by
  unfold row8d at h
  simp [World.frozen?, h]
set_option maxRecDepth 20000 in
theorem row8d.new {W : World} {k n : Nat} (h : k = W.heap.size) : row8d (W.alloc (.cells #[.int .u64 (dg n 0 : Nat), .int .u64 (dg n 1 : Nat), .int .u64 (dg n 2 : Nat), .int .u64 (dg n 3 : Nat), .int .u64 (dg n 4 : Nat), .int .u64 (dg n 5 : Nat), .int .u64 (dg n 6 : Nat), .int .u64 (dg n 7 : Nat)] 54 (0, 0))) k n := heap_new h
set_option maxRecDepth 20000 in
theorem row8d.new0 {W : World} {k : Nat} (h : k = W.heap.size) : row8d (W.alloc (.cells #[.int .u64 0, .int .u64 0, .int .u64 0, .int .u64 0, .int .u64 0, .int .u64 0, .int .u64 0, .int .u64 0] 54 (0, 0))) k 0 := by
  have e : ∀ j, dg 0 j = 0 := fun j => by unfold dg; simp
  unfold row8d
  simp only [e]
  exact heap_new h
set_option maxRecDepth 20000 in
theorem row8d.store {W : World} {k n j v : Nat} (hj : j < 8) (hv : v < B32) (h : row8d W k n) : row8d (W.setCell ⟨k, j, none⟩ (.int .u64 (v : Nat))) k (setG n j v) := by
  have h1 := store1 h j (.int .u64 (v : Nat))
  have hc : j = 0 ∨ j = 1 ∨ j = 2 ∨ j = 3 ∨ j = 4 ∨ j = 5 ∨ j = 6 ∨ j = 7 := by omega
  unfold row8d
  rw [h1]
  simp only [dg_setG hv]
  rcases hc with rfl | rfl | rfl | rfl | rfl | rfl | rfl | rfl <;> rfl

/-- Block k holds 16 parts of 32 bits of n. -/
def row16 (W : World) (k n : Nat) : Prop := W.heap[k]? = some (.cells #[.int .u64 (dg n 0 : Nat), .int .u64 (dg n 1 : Nat), .int .u64 (dg n 2 : Nat), .int .u64 (dg n 3 : Nat), .int .u64 (dg n 4 : Nat), .int .u64 (dg n 5 : Nat), .int .u64 (dg n 6 : Nat), .int .u64 (dg n 7 : Nat), .int .u64 (dg n 8 : Nat), .int .u64 (dg n 9 : Nat), .int .u64 (dg n 10 : Nat), .int .u64 (dg n 11 : Nat), .int .u64 (dg n 12 : Nat), .int .u64 (dg n 13 : Nat), .int .u64 (dg n 14 : Nat), .int .u64 (dg n 15 : Nat)] 65 (0, 0))
theorem row16.lt {W : World} {k n : Nat} (h : row16 W k n) : k < W.heap.size := (Array.getElem?_eq_some_iff.1 h).1
theorem row16.below {W W' : World} {k n B : Nat} (h : row16 W k n) (hb : Below B W W') (hk : k < B) : row16 W' k n := (hb.block k hk).trans h
theorem row16.alloc {W : World} {k n : Nat} (h : row16 W k n) (o : Obj) : row16 (W.alloc o) k n := (Below.heap_alloc W o k h.lt).trans h
theorem row16.drewN {W : World} {k n : Nat} (h : row16 W k n) (m : Nat) : row16 (W.drewN m) k n := h
theorem row16.set {W : World} {k n p j : Nat} {v : Value} (h : row16 W k n) (hk : k ≠ p) : row16 (W.setCell ⟨p, j, none⟩ v) k n := (heap_set_ne hk).trans h
set_option maxRecDepth 20000 in
theorem row16.cellAt {W : World} {k n j : Nat} (h : row16 W k n) (hj : j < 16) : W.cell? ⟨k, j, none⟩ = some (.int .u64 (dg n j : Nat)) := by
  rw [cell_of_row W k j _ _ _ h]
  have : j = 0 ∨ j = 1 ∨ j = 2 ∨ j = 3 ∨ j = 4 ∨ j = 5 ∨ j = 6 ∨ j = 7 ∨ j = 8 ∨ j = 9 ∨ j = 10 ∨ j = 11 ∨ j = 12 ∨ j = 13 ∨ j = 14 ∨ j = 15 := by omega
  rcases this with rfl | rfl | rfl | rfl | rfl | rfl | rfl | rfl | rfl | rfl | rfl | rfl | rfl | rfl | rfl | rfl <;> rfl
set_option maxRecDepth 20000 in
theorem row16.cells {W : World} {k n : Nat} (h : row16 W k n) : W.cell? ⟨k, 0, none⟩ = some (.int .u64 (dg n 0 : Nat)) ∧ W.cell? ⟨k, 1, none⟩ = some (.int .u64 (dg n 1 : Nat)) ∧ W.cell? ⟨k, 2, none⟩ = some (.int .u64 (dg n 2 : Nat)) ∧ W.cell? ⟨k, 3, none⟩ = some (.int .u64 (dg n 3 : Nat)) ∧ W.cell? ⟨k, 4, none⟩ = some (.int .u64 (dg n 4 : Nat)) ∧ W.cell? ⟨k, 5, none⟩ = some (.int .u64 (dg n 5 : Nat)) ∧ W.cell? ⟨k, 6, none⟩ = some (.int .u64 (dg n 6 : Nat)) ∧ W.cell? ⟨k, 7, none⟩ = some (.int .u64 (dg n 7 : Nat)) ∧ W.cell? ⟨k, 8, none⟩ = some (.int .u64 (dg n 8 : Nat)) ∧ W.cell? ⟨k, 9, none⟩ = some (.int .u64 (dg n 9 : Nat)) ∧ W.cell? ⟨k, 10, none⟩ = some (.int .u64 (dg n 10 : Nat)) ∧ W.cell? ⟨k, 11, none⟩ = some (.int .u64 (dg n 11 : Nat)) ∧ W.cell? ⟨k, 12, none⟩ = some (.int .u64 (dg n 12 : Nat)) ∧ W.cell? ⟨k, 13, none⟩ = some (.int .u64 (dg n 13 : Nat)) ∧ W.cell? ⟨k, 14, none⟩ = some (.int .u64 (dg n 14 : Nat)) ∧ W.cell? ⟨k, 15, none⟩ = some (.int .u64 (dg n 15 : Nat)) := ⟨h.cellAt (by decide), h.cellAt (by decide), h.cellAt (by decide), h.cellAt (by decide), h.cellAt (by decide), h.cellAt (by decide), h.cellAt (by decide), h.cellAt (by decide), h.cellAt (by decide), h.cellAt (by decide), h.cellAt (by decide), h.cellAt (by decide), h.cellAt (by decide), h.cellAt (by decide), h.cellAt (by decide), h.cellAt (by decide)⟩
set_option maxRecDepth 20000 in
theorem row16.free {W : World} {k n : Nat} (h : row16 W k n) (j : Nat) : W.frozen? ⟨k, j, none⟩ = false := by
  unfold row16 at h
  simp [World.frozen?, h]
set_option maxRecDepth 20000 in
theorem row16.new {W : World} {k n : Nat} (h : k = W.heap.size) : row16 (W.alloc (.cells #[.int .u64 (dg n 0 : Nat), .int .u64 (dg n 1 : Nat), .int .u64 (dg n 2 : Nat), .int .u64 (dg n 3 : Nat), .int .u64 (dg n 4 : Nat), .int .u64 (dg n 5 : Nat), .int .u64 (dg n 6 : Nat), .int .u64 (dg n 7 : Nat), .int .u64 (dg n 8 : Nat), .int .u64 (dg n 9 : Nat), .int .u64 (dg n 10 : Nat), .int .u64 (dg n 11 : Nat), .int .u64 (dg n 12 : Nat), .int .u64 (dg n 13 : Nat), .int .u64 (dg n 14 : Nat), .int .u64 (dg n 15 : Nat)] 65 (0, 0))) k n := heap_new h
set_option maxRecDepth 20000 in
theorem row16.new0 {W : World} {k : Nat} (h : k = W.heap.size) : row16 (W.alloc (.cells #[.int .u64 0, .int .u64 0, .int .u64 0, .int .u64 0, .int .u64 0, .int .u64 0, .int .u64 0, .int .u64 0, .int .u64 0, .int .u64 0, .int .u64 0, .int .u64 0, .int .u64 0, .int .u64 0, .int .u64 0, .int .u64 0] 65 (0, 0))) k 0 := by
  have e : ∀ j, dg 0 j = 0 := fun j => by unfold dg; simp
  unfold row16
  simp only [e]
  exact heap_new h
set_option maxRecDepth 20000 in
theorem row16.store {W : World} {k n j v : Nat} (hj : j < 16) (hv : v < B32) (h : row16 W k n) : row16 (W.setCell ⟨k, j, none⟩ (.int .u64 (v : Nat))) k (setG n j v) := by
  have h1 := store1 h j (.int .u64 (v : Nat))
  have hc : j = 0 ∨ j = 1 ∨ j = 2 ∨ j = 3 ∨ j = 4 ∨ j = 5 ∨ j = 6 ∨ j = 7 ∨ j = 8 ∨ j = 9 ∨ j = 10 ∨ j = 11 ∨ j = 12 ∨ j = 13 ∨ j = 14 ∨ j = 15 := by omega
  unfold row16
  rw [h1]
  simp only [dg_setG hv]
  rcases hc with rfl | rfl | rfl | rfl | rfl | rfl | rfl | rfl | rfl | rfl | rfl | rfl | rfl | rfl | rfl | rfl <;> rfl

theorem dg_even (a i : Nat) : dg a (2 * i) = lb a i % B32 := by
  have e : B32 ^ (2 * i) = M64 ^ i := by rw [Nat.pow_mul]; rfl
  unfold dg lb
  rw [e, Nat.mod_mod_of_dvd _ ⟨B32, by decide⟩]
theorem dg_odd (a i : Nat) : dg a (2 * i + 1) = lb a i / B32 % B32 := by
  have e : B32 ^ (2 * i) = M64 ^ i := by rw [Nat.pow_mul]; rfl
  have e2 : M64 = B32 * B32 := by decide
  unfold dg lb
  rw [Nat.pow_succ, e, ← Nat.div_div_eq_div_mul, e2, Nat.mod_mul_right_div_self, Nat.mod_mod]
theorem and_even (a i : Nat) : bits .and .u64 ((lb a i : Nat) : Int) 4294967295 = ((dg a (2 * i) : Nat) : Int) := by
  rw [u64_and32 (lb_lt a i), dg_even]; rfl
theorem and_odd (a i : Nat) : bits .and .u64 (((lb a i : Nat) : Int) / 4294967296) 4294967295 = ((dg a (2 * i + 1) : Nat) : Int) := by
  have e : ((lb a i : Nat) : Int) / 4294967296 = ((lb a i / 4294967296 : Nat) : Int) := by omega
  rw [e, u64_and32 (Nat.lt_of_le_of_lt (Nat.div_le_self _ _) (lb_lt a i)), dg_odd]; rfl

theorem dg_eq_div (n j : Nat) : dg n j = n / B32 ^ j % B32 := rfl

attribute [local irreducible] lb dg setG

set_option maxRecDepth 100000 in
set_option maxHeartbeats 4000000 in
/-- thirds. -/
theorem ref_thirds (a : Nat) (w : World) :
    Calls Try.prog 80 #[W4 a] w fun e w' => e = .returned (.agg #[.int .u64 (dg a 0 : Nat), .int .u64 (dg a 1 : Nat), .int .u64 (dg a 2 : Nat), .int .u64 (dg a 3 : Nat), .int .u64 (dg a 4 : Nat), .int .u64 (dg a 5 : Nat), .int .u64 (dg a 6 : Nat), .int .u64 (dg a 7 : Nat)]) ∧ Below w.heap.size w w' := by
  have f0 := and_even a 0
  have f1 := and_odd a 0
  have f2 := and_even a 1
  have f3 := and_odd a 1
  have f4 := and_even a 2
  have f5 := and_odd a 2
  have f6 := and_even a 3
  have f7 := and_odd a 3
  simp only [Nat.mul_zero, Nat.mul_one, Nat.reduceMul, Nat.reduceAdd, Nat.zero_add] at f0 f1 f2 f3 f4 f5 f6 f7
  go_enter Try.func80, Try.ntmps80
  go_wp2
  refine wp_loop_rounds 9 ?_
  rw [rounds_succ]
  go_wp2
  rw [rounds_succ]
  go_wp2
  rw [rounds_succ]
  go_wp2
  rw [rounds_succ]
  go_wp2
  rw [rounds_succ]
  go_wp2
  rw [rounds_succ]
  go_wp2
  rw [rounds_succ]
  go_wp2
  rw [rounds_succ]
  go_wp2
  rw [rounds_succ]
  go_wp2
  refine bodyPost_ret (by simp only [results, Try.results80]; go_simp) rfl ⟨rfl, ?_⟩
  repeat (with_reducible first | exact Below.refl _ _ | assumption | refine below_drewN ?_ _ | refine Below.drew ?_ | refine Below.setCell ?_ (by first | omega | (simp; done) | (simp; omega)) _ | refine Below.alloc ?_ (by first | omega | (simp; done) | (simp; omega)) _ | refine Below.trans ?_ (Below.mono (by assumption) (by first | omega | (simp; done) | (simp; omega))))

/-- One round of the product: what is carried. -/
theorem prodG_step {x y mj o s : Nat} (hs : s = mj + x * y + o) (hx : x < B32) (hy : y < B32) (hm : mj < B32) (ho : o < B32) :
    s % B32 + B32 * (s / B32) = x * y + mj + o ∧ s / B32 < B32 ∧ s < M64 ∧ mj + x * y < M64 ∧ x * y < M64 := by
  have hxy : x * y ≤ 4294967295 * 4294967295 := Nat.mul_le_mul (by unfold B32 at hx; omega) (by unfold B32 at hy; omega)
  generalize x * y = p at *
  unfold B32 M64 at *
  omega

set_option maxRecDepth 100000 in
set_option maxHeartbeats 8000000 in
/-- The document's product. -/
theorem ref_product (a b : Nat) (ha : a < Q256) (hb : b < Q256) (w : World) :
    Calls Try.prog 72 #[W4 a, W4 b] w fun e w' => e = .returned (.agg #[.int .u64 (dg (a * b) 0 : Nat), .int .u64 (dg (a * b) 1 : Nat), .int .u64 (dg (a * b) 2 : Nat), .int .u64 (dg (a * b) 3 : Nat), .int .u64 (dg (a * b) 4 : Nat), .int .u64 (dg (a * b) 5 : Nat), .int .u64 (dg (a * b) 6 : Nat), .int .u64 (dg (a * b) 7 : Nat), .int .u64 (dg (a * b) 8 : Nat), .int .u64 (dg (a * b) 9 : Nat), .int .u64 (dg (a * b) 10 : Nat), .int .u64 (dg (a * b) 11 : Nat), .int .u64 (dg (a * b) 12 : Nat), .int .u64 (dg (a * b) 13 : Nat), .int .u64 (dg (a * b) 14 : Nat), .int .u64 (dg (a * b) 15 : Nat)]) ∧ Below w.heap.size w w' := by
  have c1 := fun W => ref_thirds a W
  have c2 := fun W => ref_thirds b W
  obtain ⟨n, hn⟩ : ∃ n, n = a * b := ⟨_, rfl⟩
  rw [← hn]
  have HN := Lib.hid hn
  clear hn
  go_enter Try.func72, Try.ntmps72
  go_wp2_with (first | (go_at_call 80; with_reducible refine (c1 _).mono ?_; rintro e wa ⟨rfl, hb_wa⟩; have hc_wa := (bcell hb_wa).1; have hf_wa := (bcell hb_wa).2; have hz_wa : _ ≤ wa.heap.size := hb_wa.size; (try simp only [World.size_alloc, World.heap_drewN, World.size_setCell, heap_drew] at hc_wa hf_wa hz_wa); have hz_wa_w_0 : w.heap.size < wa.heap.size := (by omega); have hz_wa_w_1 : w.heap.size + 1 < wa.heap.size := (by omega); have hz_wa_w_2 : w.heap.size + 1 + 1 < wa.heap.size := (by omega); have hz_wa_w_3 : w.heap.size + 1 + 1 + 1 < wa.heap.size := (by omega)) | (go_at_call 80; with_reducible refine (c2 _).mono ?_; rintro e wb ⟨rfl, hb_wb⟩; have hc_wb := (bcell hb_wb).1; have hf_wb := (bcell hb_wb).2; have hz_wb : _ ≤ wb.heap.size := hb_wb.size; (try simp only [World.size_alloc, World.heap_drewN, World.size_setCell, heap_drew] at hc_wb hf_wb hz_wb); have hz_wb_w_0 : w.heap.size < wb.heap.size := (by omega); have hz_wb_w_1 : w.heap.size + 1 < wb.heap.size := (by omega); have hz_wb_w_2 : w.heap.size + 1 + 1 < wb.heap.size := (by omega); have hz_wb_w_3 : w.heap.size + 1 + 1 + 1 < wb.heap.size := (by omega); have hz_wb_wa_0 : wa.heap.size < wb.heap.size := (by omega)))
  go_loopw [8] (fun i wr => ∃ j : Nat, j ≤ 8 ∧ i = .int .i64 j ∧ row16 wr (w.heap.size + 1 + 1 + 1) ((a % B32 ^ j) * b) ∧ row16 wr (w.heap.size + 1 + 1) 0 ∧ row8d wr wa.heap.size a ∧ row8d wr wb.heap.size b ∧ Below w.heap.size w wr)
    (fun i _ => 8 - (intOf i).toNat)
  case atStart =>
    refine ⟨0, by omega, rfl, ?_, ?_, ?_, row8d.new rfl, ?_⟩
    · rw [Nat.pow_zero, Nat.mod_one, Nat.zero_mul]
      exact ((((row16.new0 (by simp)).below hb_wa (by simp)).alloc _).below hb_wb (by simp; omega)).alloc _
    · exact (((((row16.new0 (by simp)).alloc _).below hb_wa (by simp)).alloc _).below hb_wb (by simp; omega)).alloc _
    · exact ((row8d.new rfl).below hb_wb (by simp)).alloc _
    · skip
      repeat (with_reducible first | exact Below.refl _ _ | assumption | refine below_drewN ?_ _ | refine Below.drew ?_ | refine Below.setCell ?_ (by first | omega | (simp; done) | (simp; omega)) _ | refine Below.alloc ?_ (by first | omega | (simp; done) | (simp; omega)) _ | refine Below.trans ?_ (Below.mono (by assumption) (by first | omega | (simp; done) | (simp; omega))))
  case round =>
    obtain ⟨i, hi, rfl, hrow, hres, ra, rb, hbel⟩ := hrel
    have hsz := hrow.lt
    by_cases hi4 : i < 8
    · have ci := ra.cellAt hi4
      have hxl := dg_lt a i
      generalize hx : dg a i = x at *
      have hdi : decide ((i : Int) < 8) = true := by simp only [decide_eq_true_eq]; omega
      go_wp2
      go_loopw [9, 10] (fun ov kk wr => ∃ k m o : Nat, k ≤ 8 ∧ kk = .int .i64 k ∧ ov = .int .u64 o ∧ o < B32 ∧ row16 wr (w.heap.size + 1 + 1 + 1) m ∧ m < B32 ^ (i + 8) ∧ m + o * B32 ^ (i + k) = a % B32 ^ i * b + x * (B32 ^ i * (b % B32 ^ k)) ∧
          row16 wr (w.heap.size + 1 + 1) 0 ∧ row8d wr wa.heap.size a ∧ row8d wr wb.heap.size b ∧ Below w.heap.size w wr)
        (fun _ kk _ => 8 - (intOf kk).toNat)
      case atStart =>
        refine ⟨0, _, 0, by omega, rfl, rfl, B32_pos, hrow, ?_, ?_, hres, ra, rb, hbel⟩
        · exact prodG_lt hb
        · simp [Nat.mod_one]
      case round =>
        clear hrow hres rb hbel hsz ra ci
        obtain ⟨k, m, o, hk, rfl, rfl, ho, hrow, hm, hE, hres, ra, rb, hbel⟩ := hrel
        have hsz := hrow.lt
        by_cases hk4 : k < 8
        · have ci := ra.cellAt hi4
          rw [hx] at ci
          have ck := rb.cellAt hk4
          have hyl := dg_lt b k
          generalize hy : dg b k = y at *
          have hml := dg_lt m (i + k)
          have hcm := hrow.cellAt (j := i + k) (by omega)
          have hfm := hrow.free
          generalize hmj : dg m (i + k) = mj at *
          obtain ⟨s, hs⟩ : ∃ s, s = mj + x * y + o := ⟨_, rfl⟩
          have hst := prodG_step hs hxl hyl hml ho
          have w1 : IntKind.u64.wrap (((x : Nat) : Int) * ((y : Nat) : Int)) = ((x * y : Nat) : Int) := u64_wrap_nat (by push_cast; rfl) hst.2.2.2.2
          have w2 : IntKind.u64.wrap (((mj : Nat) : Int) + ((x * y : Nat) : Int)) = ((mj + x * y : Nat) : Int) := u64_wrap_nat (by omega) hst.2.2.2.1
          have w3 : IntKind.u64.wrap (((mj + x * y : Nat) : Int) + ((o : Nat) : Int)) = ((s : Nat) : Int) := u64_wrap_nat (by omega) hst.2.2.1
          have hand : bits .and .u64 ((s : Nat) : Int) 4294967295 = ((s % B32 : Nat) : Int) := u64_and32 hst.2.2.1
          have hshr : ((s : Nat) : Int) / 4294967296 = ((s / B32 : Nat) : Int) := by unfold B32; omega
          have hnx := Lib.hid (prodG_next hE hst.1 (hmj ▸ setG_add m (i + k) (s % B32)) (dg_eq_div b k ▸ hy))
          have hl2 : s % B32 < B32 := Nat.mod_lt _ B32_pos
          have hml' := Lib.hid (setG_lt (j := i + k) hl2 (by omega) hm)
          have hol := hst.2.1
          generalize x * y = p at *
          generalize mj + p = q at *
          generalize s % B32 = l2 at *
          generalize s / B32 = o' at *
          have hx1 : 0 ≤ ((i : Nat) : Int) + ((k : Nat) : Int) := by omega
          have hx2 : ((i : Nat) : Int) + ((k : Nat) : Int) < 16 := by omega
          have hx3 : ((k : Nat) : Int) < 8 := by omega
          have hx4 : ((i : Nat) : Int) < 8 := by omega
          clear hst hE hm hmj hy hs
          go_wp2
          first | refine wp_flow (fun k => ([1, 1, 1, 1, 1, 1, 1, 1, 1, 1, 1, 1, 1, 1, 1, 1] : List Nat).getD k 1) Dr _ (Dr.next _ _) (by kernel_rfl) (by kernel_rfl) ?_ | refine wp_flow (fun k => ([1, 1, 1, 1, 1, 1, 1, 1, 1, 1, 1, 1, 1, 1, 1, 1] : List Nat).getD k 1) Dr _ (Dr.one _) (by kernel_rfl) (by kernel_rfl) ?_
          (refine flow_quiet rfl rfl (fun K hK => ?_); apply Exists.intro; apply And.intro; (focus (rintro w' ⟨nn, rfl⟩; go_simp; (try go_bits); exact ⟨rfl, Dr.of _ _⟩)); go_simp; (try go_bits); refine hK _ ?_; clear hK K)
          (refine flow_quiet rfl rfl (fun K hK => ?_); apply Exists.intro; apply And.intro; (focus (rintro w' ⟨nn, rfl⟩; go_simp; (try go_bits); exact ⟨rfl, Dr.of _ _⟩)); go_simp; (try go_bits); refine hK _ ?_; clear hK K)
          (refine flow_quiet rfl rfl (fun K hK => ?_); apply Exists.intro; apply And.intro; (focus (rintro w' ⟨nn, rfl⟩; go_simp; (try go_bits); exact ⟨rfl, Dr.of _ _⟩)); go_simp; (try go_bits); refine hK _ ?_; clear hK K)
          (refine flow_quiet rfl rfl (fun K hK => ?_); apply Exists.intro; apply And.intro; (focus (rintro w' ⟨nn, rfl⟩; go_simp; (try go_bits); exact ⟨rfl, Dr.of _ _⟩)); go_simp; (try go_bits); refine hK _ ?_; clear hK K)
          (refine flow_quiet rfl rfl (fun K hK => ?_); apply Exists.intro; apply And.intro; (focus (rintro w' ⟨nn, rfl⟩; go_simp; (try go_bits); exact ⟨rfl, Dr.of _ _⟩)); go_simp; (try go_bits); refine hK _ ?_; clear hK K)
          (refine flow_quiet rfl rfl (fun K hK => ?_); apply Exists.intro; apply And.intro; (focus (rintro w' ⟨nn, rfl⟩; go_simp; (try go_bits); exact ⟨rfl, Dr.of _ _⟩)); go_simp; (try go_bits); refine hK _ ?_; clear hK K)
          (refine flow_quiet rfl rfl (fun K hK => ?_); apply Exists.intro; apply And.intro; (focus (rintro w' ⟨nn, rfl⟩; go_simp; (try go_bits); exact ⟨rfl, Dr.of _ _⟩)); go_simp; (try go_bits); refine hK _ ?_; clear hK K)
          (refine flow_quiet rfl rfl (fun K hK => ?_); apply Exists.intro; apply And.intro; (focus (rintro w' ⟨nn, rfl⟩; go_simp; (try go_bits); exact ⟨rfl, Dr.of _ _⟩)); go_simp; (try go_bits); refine hK _ ?_; clear hK K)
          (refine flow_quiet rfl rfl (fun K hK => ?_); apply Exists.intro; apply And.intro; (focus (rintro w' ⟨nn, rfl⟩; go_simp; (try go_bits); exact ⟨rfl, Dr.of _ _⟩)); go_simp; (try go_bits); refine hK _ ?_; clear hK K)
          (refine flow_quiet rfl rfl (fun K hK => ?_); apply Exists.intro; apply And.intro; (focus (rintro w' ⟨nn, rfl⟩; go_simp; (try go_bits); exact ⟨rfl, Dr.of _ _⟩)); go_simp; (try go_bits); refine hK _ ?_; clear hK K)
          (refine flow_quiet rfl rfl (fun K hK => ?_); apply Exists.intro; apply And.intro; (focus (rintro w' ⟨nn, rfl⟩; go_simp; (try go_bits); exact ⟨rfl, Dr.of _ _⟩)); go_simp; (try go_bits); refine hK _ ?_; clear hK K)
          (refine flow_quiet rfl rfl (fun K hK => ?_); apply Exists.intro; apply And.intro; (focus (rintro w' ⟨nn, rfl⟩; go_simp; (try go_bits); exact ⟨rfl, Dr.of _ _⟩)); go_simp; (try go_bits); refine hK _ ?_; clear hK K)
          (refine flow_quiet rfl rfl (fun K hK => ?_); apply Exists.intro; apply And.intro; (focus (rintro w' ⟨nn, rfl⟩; go_simp; (try go_bits); exact ⟨rfl, Dr.of _ _⟩)); go_simp; (try go_bits); refine hK _ ?_; clear hK K)
          (refine flow_quiet rfl rfl (fun K hK => ?_); apply Exists.intro; apply And.intro; (focus (rintro w' ⟨nn, rfl⟩; go_simp; (try go_bits); exact ⟨rfl, Dr.of _ _⟩)); go_simp; (try go_bits); refine hK _ ?_; clear hK K)
          (refine flow_quiet rfl rfl (fun K hK => ?_); apply Exists.intro; apply And.intro; (focus (rintro w' ⟨nn, rfl⟩; go_simp; (try go_bits); exact ⟨rfl, Dr.of _ _⟩)); go_simp; (try go_bits); refine hK _ ?_; clear hK K)
          (refine flow_quiet rfl rfl (fun K hK => ?_); apply Exists.intro; apply And.intro; (focus (rintro w' ⟨nn, rfl⟩; go_simp; (try go_bits); exact ⟨rfl, Dr.of _ _⟩)); go_simp; (try go_bits); refine hK _ ?_; clear hK K)
          refine flow_nil ?_
          rintro w' ⟨nq, rfl⟩
          go_wp2
          go_roundw
          case rel =>
            refine ⟨k + 1, setG m (i + k) l2, o', by omega, by go_num, rfl, hol, ?_, hml'.out, hnx.out, ?_, ?_, ?_, ?_⟩
            · exact (row16.store (by omega) hl2 hrow).drewN _
            · exact (hres.set (by omega)).drewN _
            · exact (ra.set (by omega)).drewN _
            · exact (rb.set (by omega)).drewN _
            repeat (with_reducible first | exact Below.refl _ _ | assumption | refine below_drewN ?_ _ | refine Below.drew ?_ | refine Below.setCell ?_ (by first | omega | (simp; done) | (simp; omega)) _ | refine Below.alloc ?_ (by first | omega | (simp; done) | (simp; omega)) _ | refine Below.trans ?_ (Below.mono (by assumption) (by first | omega | (simp; done) | (simp; omega))))
          case measure => simp [intOf]; omega
        · obtain rfl : k = 8 := by omega
          have hco := hrow.cellAt (j := i + 8) (by omega)
          have hfm := hrow.free
          have hl := Lib.hid (prodG_last (by rw [B32_eight]; exact hb) hE hm (dg_eq_div a i ▸ hx))
          clear hE hm
          go_wp2
          go_roundw
          case rel =>
            refine ⟨i + 1, by omega, by go_num, ?_, hres.set (by omega), ra.set (by omega), rb.set (by omega), ?_⟩
            · rw [← hl.out]
              exact row16.store (by omega) ho hrow
            repeat (with_reducible first | exact Below.refl _ _ | assumption | refine below_drewN ?_ _ | refine Below.drew ?_ | refine Below.setCell ?_ (by first | omega | (simp; done) | (simp; omega)) _ | refine Below.alloc ?_ (by first | omega | (simp; done) | (simp; omega)) _ | refine Below.trans ?_ (Below.mono (by assumption) (by first | omega | (simp; done) | (simp; omega))))
          case measure => simp [intOf]; omega
    · obtain rfl : i = 8 := by omega
      rw [B32_eight, Nat.mod_eq_of_lt ha, ← HN.out] at hrow
      obtain ⟨q0, q1, q2, q3, q4, q5, q6, q7, q8, q9, q10, q11, q12, q13, q14, q15⟩ := hrow.cells
      obtain ⟨z0, z1, z2, z3, z4, z5, z6, z7, z8, z9, z10, z11, z12, z13, z14, z15⟩ := hres.cells
      have zf := hres.free
      clear hrow hres ra rb
      go_wp2
      refine bodyPost_ret (by simp only [results, Try.results72]; go_simp) rfl ⟨rfl, ?_⟩
      repeat (with_reducible first | exact Below.refl _ _ | assumption | refine below_drewN ?_ _ | refine Below.drew ?_ | refine Below.setCell ?_ (by first | omega | (simp; done) | (simp; omega)) _ | refine Below.alloc ?_ (by first | omega | (simp; done) | (simp; omega)) _ | refine Below.trans ?_ (Below.mono (by assumption) (by first | omega | (simp; done) | (simp; omega))))
end Go.Proofs.Ytmegpggpndjjcaa
