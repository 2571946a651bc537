/-
  Contracts of bits.Mul64, word.product and word.Mul: what each returns, in numbers below 2^256. Conditions: none.
-/
import Derived.Test.YtmegpggpndjjcaaW2
import Derived.Test.YtmegpggpndjjcaaR1
import Derived.Test.YtmegpggpndjjcaaBits
import Derived.Laws.Cover3
namespace Go.Proofs.Ytmegpggpndjjcaa
open Go.RowKit
attribute [local go_sem] leftBy
set_option linter.unusedSimpArgs false
set_option linter.unusedVariables false


theorem u64_and32 {x : Nat} (h : x < M64) : bits .and .u64 ((x : Nat) : Int) 4294967295 = ((x % 4294967296 : Nat) : Int) := by
  rw [show (4294967295 : Int) = ((4294967295 : Nat) : Int) from rfl, u64_and_nat _ _ h (by decide)]
  congr 1
  have := Nat.and_two_pow_sub_one_eq_mod x 32
  simpa using this

theorem u64_wrap_nat {z : Int} {n : Nat} (h : z = (n : Int)) (hn : n < M64) : IntKind.u64.wrap z = ((n : Nat) : Int) := by
  subst h
  unfold M64 at hn
  exact IntWalk.u64_in _ (by omega)

theorem u64_wrap_mod (n : Nat) : IntKind.u64.wrap ((n : Nat) : Int) = ((n % 18446744073709551616 : Nat) : Int) := by
  have h : IntKind.u64.wrap ((n : Nat) : Int) = ((n : Nat) : Int) % 18446744073709551616 := rfl
  rw [h]
  omega

/-- The high and the low part of a product of two words of 64 bits. -/
theorem Mul64_any (x y : Nat) (hx : x < M64) (hy : y < M64) (w : World) :
    Calls Try.prog 77 #[.int .u64 x, .int .u64 y] w fun e w' => e = .returned (.tuple #[.int .u64 (x * y / M64 : Nat), .int .u64 (x * y % M64 : Nat)]) ∧ Below w.heap.size w w' := by
  obtain ⟨x0, h0⟩ : ∃ n, n = x % 4294967296 := ⟨_, rfl⟩
  obtain ⟨x1, h1⟩ : ∃ n, n = x / 4294967296 := ⟨_, rfl⟩
  obtain ⟨y0, k0⟩ : ∃ n, n = y % 4294967296 := ⟨_, rfl⟩
  obtain ⟨y1, k1⟩ : ∃ n, n = y / 4294967296 := ⟨_, rfl⟩
  have ax := u64_and32 hx
  have ay := u64_and32 hy
  rw [← h0] at ax
  rw [← k0] at ay
  have dx : ((x : Nat) : Int) / 4294967296 = ((x1 : Nat) : Int) := by omega
  have dy : ((y : Nat) : Int) / 4294967296 = ((y1 : Nat) : Int) := by omega
  unfold M64 at hx hy
  have bx0 : x0 ≤ 4294967295 := by omega
  have bx1 : x1 ≤ 4294967295 := by omega
  have by0 : y0 ≤ 4294967295 := by omega
  have by1 : y1 ≤ 4294967295 := by omega
  have b00 := Nat.mul_le_mul bx0 by0
  have b10 := Nat.mul_le_mul bx1 by0
  have b01 := Nat.mul_le_mul bx0 by1
  have b11 := Nat.mul_le_mul bx1 by1
  have ex : x = x0 + 4294967296 * x1 := by omega
  have ey : y = y0 + 4294967296 * y1 := by omega
  have hP : x * y = x0 * y0 + 4294967296 * (x1 * y0 + x0 * y1) + 18446744073709551616 * (x1 * y1) := by rw [ex, ey]; grind
  have c00 : ((x0 : Nat) : Int) * ((y0 : Nat) : Int) = ((x0 * y0 : Nat) : Int) := by push_cast; rfl
  have c10 : ((x1 : Nat) : Int) * ((y0 : Nat) : Int) = ((x1 * y0 : Nat) : Int) := by push_cast; rfl
  have c01 : ((x0 : Nat) : Int) * ((y1 : Nat) : Int) = ((x0 * y1 : Nat) : Int) := by push_cast; rfl
  have c11 : ((x1 : Nat) : Int) * ((y1 : Nat) : Int) = ((x1 * y1 : Nat) : Int) := by push_cast; rfl
  have cxy : ((x : Nat) : Int) * ((y : Nat) : Int) = ((x * y : Nat) : Int) := by push_cast; rfl
  generalize x0 * y0 = p00 at *
  generalize x1 * y0 = p10 at *
  generalize x0 * y1 = p01 at *
  generalize x1 * y1 = p11 at *
  generalize x * y = p at *
  have e00 : IntKind.u64.wrap (((x0 : Nat) : Int) * ((y0 : Nat) : Int)) = ((p00 : Nat) : Int) := u64_wrap_nat c00 (by unfold M64; omega)
  have e10 : IntKind.u64.wrap (((x1 : Nat) : Int) * ((y0 : Nat) : Int)) = ((p10 : Nat) : Int) := u64_wrap_nat c10 (by unfold M64; omega)
  have e01 : IntKind.u64.wrap (((x0 : Nat) : Int) * ((y1 : Nat) : Int)) = ((p01 : Nat) : Int) := u64_wrap_nat c01 (by unfold M64; omega)
  have e11 : IntKind.u64.wrap (((x1 : Nat) : Int) * ((y1 : Nat) : Int)) = ((p11 : Nat) : Int) := u64_wrap_nat c11 (by unfold M64; omega)
  have el : IntKind.u64.wrap (((x : Nat) : Int) * ((y : Nat) : Int)) = ((p % M64 : Nat) : Int) := by rw [cxy]; exact u64_wrap_mod p
  obtain ⟨q00, hq⟩ : ∃ n, n = p00 / 4294967296 := ⟨_, rfl⟩
  have d00 : ((p00 : Nat) : Int) / 4294967296 = ((q00 : Nat) : Int) := by omega
  obtain ⟨t, ht⟩ : ∃ n, n = p10 + q00 := ⟨_, rfl⟩
  have et : IntKind.u64.wrap (((p10 : Nat) : Int) + ((q00 : Nat) : Int)) = ((t : Nat) : Int) := u64_wrap_nat (by omega) (by unfold M64; omega)
  obtain ⟨t0, ht0⟩ : ∃ n, n = t % 4294967296 := ⟨_, rfl⟩
  obtain ⟨t1, ht1⟩ : ∃ n, n = t / 4294967296 := ⟨_, rfl⟩
  have at' := u64_and32 (x := t) (by unfold M64; omega)
  rw [← ht0] at at'
  have dt : ((t : Nat) : Int) / 4294967296 = ((t1 : Nat) : Int) := by omega
  obtain ⟨s, hs⟩ : ∃ n, n = t0 + p01 := ⟨_, rfl⟩
  have es : IntKind.u64.wrap (((t0 : Nat) : Int) + ((p01 : Nat) : Int)) = ((s : Nat) : Int) := u64_wrap_nat (by omega) (by unfold M64; omega)
  obtain ⟨s1, hs1⟩ : ∃ n, n = s / 4294967296 := ⟨_, rfl⟩
  have ds : ((s : Nat) : Int) / 4294967296 = ((s1 : Nat) : Int) := by omega
  have eu : IntKind.u64.wrap (((p11 : Nat) : Int) + ((t1 : Nat) : Int)) = ((p11 + t1 : Nat) : Int) := u64_wrap_nat (by omega) (by unfold M64; omega)
  have eh : IntKind.u64.wrap (((p11 + t1 : Nat) : Int) + ((s1 : Nat) : Int)) = ((p / M64 : Nat) : Int) := u64_wrap_nat (by unfold M64; omega) (by unfold M64; omega)
  generalize p11 + t1 = u at *
  generalize p / M64 = hi at *
  generalize p % M64 = lo at *
  clear h0 h1 k0 k1 hx hy bx0 bx1 by0 by1 b00 b10 b01 b11 ex ey hP c00 c10 c01 c11 cxy hq ht ht0 ht1 hs hs1
  go_enter Try.func77, Try.ntmps77
  go_wp2
  refine bodyPost_ret (v := .tuple #[.int .u64 hi, .int .u64 lo]) (by simp [results, Try.results77, go_sem]) rfl ⟨rfl, ?_⟩
  repeat (with_reducible first | exact Below.refl _ _ | assumption | refine below_drewN ?_ _ | refine Below.drew ?_ | refine Below.setCell ?_ (by first | omega | (simp; done) | (simp; omega)) _ | refine Below.alloc ?_ (by first | omega | (simp; done) | (simp; omega)) _ | refine Below.trans ?_ (Below.mono (by assumption) (by first | omega | (simp; done) | (simp; omega))))

/-! ### Rows of eight parts -/

/-- Block k holds the eight parts of n. -/
def row8 (W : World) (k n : Nat) : Prop := W.heap[k]? = some (.cells #[.int .u64 (lb n 0 : Nat), .int .u64 (lb n 1 : Nat), .int .u64 (lb n 2 : Nat), .int .u64 (lb n 3 : Nat), .int .u64 (lb n 4 : Nat), .int .u64 (lb n 5 : Nat), .int .u64 (lb n 6 : Nat), .int .u64 (lb n 7 : Nat)] 54 (0, 0))
theorem row8.lt {W : World} {k n : Nat} (h : row8 W k n) : k < W.heap.size := (Array.getElem?_eq_some_iff.1 h).1
theorem row8.below {W W' : World} {k n B : Nat} (h : row8 W k n) (hb : Below B W W') (hk : k < B) : row8 W' k n := (hb.block k hk).trans h
theorem row8.alloc {W : World} {k n : Nat} (h : row8 W k n) (o : Obj) : row8 (W.alloc o) k n := (Below.heap_alloc W o k h.lt).trans h
theorem row8.set {W : World} {k n p j : Nat} {v : Value} (h : row8 W k n) (hk : k ≠ p) : row8 (W.setCell ⟨p, j, none⟩ v) k n := (heap_set_ne hk).trans h
theorem row8.cellAt {W : World} {k n j : Nat} (h : row8 W k n) (hj : j < 8) : W.cell? ⟨k, j, none⟩ = some (.int .u64 (lb n j : Nat)) := by
  rw [cell_of_row W k j _ _ _ h]
  have : j = 0 ∨ j = 1 ∨ j = 2 ∨ j = 3 ∨ j = 4 ∨ j = 5 ∨ j = 6 ∨ j = 7 := by omega
  rcases this with rfl | rfl | rfl | rfl | rfl | rfl | rfl | rfl <;> rfl
theorem row8.free {W : World} {k n : Nat} (h : row8 W k n) (j : Nat) : W.frozen? ⟨k, j, none⟩ = false := by
  unfold row8 at h
  simp [World.frozen?, h]
theorem row8.cells {W : World} {k n : Nat} (h : row8 W k n) : W.cell? ⟨k, 0, none⟩ = some (.int .u64 (lb n 0 : Nat)) ∧ W.cell? ⟨k, 1, none⟩ = some (.int .u64 (lb n 1 : Nat)) ∧ W.cell? ⟨k, 2, none⟩ = some (.int .u64 (lb n 2 : Nat)) ∧ W.cell? ⟨k, 3, none⟩ = some (.int .u64 (lb n 3 : Nat)) ∧
    W.cell? ⟨k, 4, none⟩ = some (.int .u64 (lb n 4 : Nat)) ∧ W.cell? ⟨k, 5, none⟩ = some (.int .u64 (lb n 5 : Nat)) ∧ W.cell? ⟨k, 6, none⟩ = some (.int .u64 (lb n 6 : Nat)) ∧ W.cell? ⟨k, 7, none⟩ = some (.int .u64 (lb n 7 : Nat)) :=
  ⟨h.cellAt (by decide), h.cellAt (by decide), h.cellAt (by decide), h.cellAt (by decide), h.cellAt (by decide), h.cellAt (by decide), h.cellAt (by decide), h.cellAt (by decide)⟩
theorem row8.new0 {W : World} {k : Nat} (h : k = W.heap.size) : row8 (W.alloc (.cells #[.int .u64 0, .int .u64 0, .int .u64 0, .int .u64 0, .int .u64 0, .int .u64 0, .int .u64 0, .int .u64 0] 54 (0, 0))) k 0 := by
  have e : ∀ j, lb 0 j = 0 := fun j => by unfold lb; simp
  unfold row8
  simp only [e]
  exact heap_new h

/-- n, its part j being v. -/
def setL (n j v : Nat) : Nat := n % M64 ^ j + M64 ^ j * (v + M64 * (n / M64 ^ (j + 1)))

theorem lb_setL {n j v : Nat} (hv : v < M64) (i : Nat) : lb (setL n j v) i = if i = j then v else lb n i := by
  have hA := Nat.mod_lt n (Mj_pos j)
  have hpos := Mj_pos j
  rcases Nat.lt_trichotomy i j with h | h | h
  · rw [if_neg (by omega)]
    have e1 : setL n j v % M64 ^ j = n % M64 ^ j := by unfold setL; rw [Nat.add_mul_mod_self_left, Nat.mod_mod]
    have e2 := lb_mod (n := setL n j v) (j := j) (i := i)
    have e3 := lb_mod (n := n) (j := j) (i := i)
    rw [if_pos h] at e2 e3
    rw [← e2, ← e3, e1]
  · subst h
    rw [if_pos rfl]
    unfold setL lb
    rw [Nat.add_mul_div_left _ _ hpos, Nat.div_eq_of_lt hA, Nat.zero_add, Nat.add_mul_mod_self_left, Nat.mod_eq_of_lt hv]
  · rw [if_neg (by omega)]
    obtain ⟨r, rfl⟩ : ∃ r, i = j + 1 + r := ⟨i - (j + 1), by omega⟩
    unfold setL lb
    rw [Nat.pow_add M64 (j + 1) r, Nat.pow_succ, Nat.mul_assoc, ← Nat.div_div_eq_div_mul, Nat.add_mul_div_left _ _ hpos, Nat.div_eq_of_lt hA, Nat.zero_add, ← Nat.div_div_eq_div_mul, Nat.add_mul_div_left _ _ M64_pos, Nat.div_eq_of_lt hv, Nat.zero_add, ← Nat.pow_succ, Nat.div_div_eq_div_mul n, ← Nat.mul_assoc, ← Nat.pow_succ]

theorem setL_add (n j v : Nat) : setL n j v + lb n j * M64 ^ j = n + v * M64 ^ j := by
  have h1 := Nat.mod_add_div n (M64 ^ j)
  have h2 := Nat.mod_add_div (n / M64 ^ j) M64
  have h3 : n / M64 ^ j / M64 = n / M64 ^ (j + 1) := by rw [Nat.div_div_eq_div_mul, Nat.pow_succ]
  rw [h3] at h2
  unfold setL lb
  generalize n / M64 ^ (j + 1) = z at *
  generalize n / M64 ^ j % M64 = l at *
  generalize n / M64 ^ j = y at *
  generalize n % M64 ^ j = r at *
  grind

theorem setL_lt {n j v p : Nat} (hv : v < M64) (hj : j < p) (hn : n < M64 ^ p) : setL n j v < M64 ^ p := by
  obtain ⟨q, rfl⟩ : ∃ q, p = j + 1 + q := ⟨p - (j + 1), by omega⟩
  have hz : n / M64 ^ (j + 1) < M64 ^ q := (Nat.div_lt_iff_lt_mul (Mj_pos _)).2 (by rw [Nat.mul_comm, ← Nat.pow_add]; exact hn)
  have hr := Nat.mod_lt n (Mj_pos j)
  unfold setL
  have h1 : v + M64 * (n / M64 ^ (j + 1)) + 1 ≤ M64 * M64 ^ q := by
    have := Nat.mul_le_mul_left M64 (Nat.succ_le_of_lt hz)
    rw [Nat.mul_succ] at this
    omega
  have h2 := Nat.mul_le_mul_left (M64 ^ j) h1
  rw [Nat.mul_add, Nat.mul_one, ← Nat.mul_assoc, ← Nat.pow_succ, ← Nat.pow_add, Nat.succ_eq_add_one] at h2
  omega

theorem row8.store {W : World} {k n j v : Nat} (hj : j < 8) (hv : v < M64) (h : row8 W k n) : row8 (W.setCell ⟨k, j, none⟩ (.int .u64 (v : Nat))) k (setL n j v) := by
  have h1 := store1 h j (.int .u64 (v : Nat))
  have hc : j = 0 ∨ j = 1 ∨ j = 2 ∨ j = 3 ∨ j = 4 ∨ j = 5 ∨ j = 6 ∨ j = 7 := by omega
  unfold row8
  rw [h1]
  simp only [lb_setL hv]
  rcases hc with rfl | rfl | rfl | rfl | rfl | rfl | rfl | rfl <;> rfl

theorem lb_eq_div (n j : Nat) : lb n j = n / M64 ^ j % M64 := rfl

/-- One round: hi and lo of a product, two sums with what is carried. -/
theorem prod_step {x y mj o p1 p0 l1 c1 l2 c2 : Nat} (hp : p0 + M64 * p1 = x * y) (h1 : l1 + M64 * c1 = p0 + mj + 0) (h2 : l2 + M64 * c2 = l1 + o + 0) (hx : x < M64) (hy : y < M64) (hm : mj < M64) (ho : o < M64) :
    l2 + M64 * (p1 + c1 + c2) = x * y + mj + o ∧ p1 + c1 + c2 < M64 := by
  have hxy : x * y ≤ 18446744073709551615 * 18446744073709551615 := Nat.mul_le_mul (by unfold M64 at hx; omega) (by unfold M64 at hy; omega)
  generalize x * y = p at *
  unfold M64 at *
  omega

theorem prod_next {a b m m' o o' x y mj l i k : Nat} (hE : m + o * M64 ^ (i + k) = a + x * (M64 ^ i * (b % M64 ^ k))) (hs : l + M64 * o' = x * y + mj + o) (hm : m' + mj * M64 ^ (i + k) = m + l * M64 ^ (i + k)) (hy : b / M64 ^ k % M64 = y) :
    m' + o' * M64 ^ (i + (k + 1)) = a + x * (M64 ^ i * (b % M64 ^ (k + 1))) := by
  have e : b % M64 ^ (k + 1) = b % M64 ^ k + M64 ^ k * y := by rw [Nat.mod_pow_succ, hy]
  rw [e, ← Nat.add_assoc i k 1, Nat.pow_succ, Nat.pow_add] at *
  generalize b % M64 ^ k = r at *
  generalize M64 ^ i = I at *
  generalize M64 ^ k = K at *
  grind

theorem prod_lt {a b i : Nat} (hb : b < Q256) : a % M64 ^ i * b < M64 ^ (i + 4) := by
  rw [Nat.pow_add, M64_four]
  exact Nat.mul_lt_mul'' (Nat.mod_lt _ (Mj_pos i)) hb

theorem prod_last {a b m o x i : Nat} (hb : b < M64 ^ 4) (hE : m + o * M64 ^ (i + 4) = a % M64 ^ i * b + x * (M64 ^ i * (b % M64 ^ 4))) (hm : m < M64 ^ (i + 4)) (hx : a / M64 ^ i % M64 = x) : setL m (i + 4) o = a % M64 ^ (i + 1) * b := by
  have e : a % M64 ^ (i + 1) = a % M64 ^ i + M64 ^ i * x := by rw [Nat.mod_pow_succ, hx]
  have h1 : setL m (i + 4) o = m + M64 ^ (i + 4) * o := by
    unfold setL
    rw [Nat.mod_eq_of_lt hm, Nat.div_eq_of_lt (Nat.lt_of_lt_of_le hm (Nat.pow_le_pow_right M64_pos (by omega))), Nat.mul_zero]
    simp
  rw [Nat.mod_eq_of_lt hb] at hE
  rw [h1, e]
  generalize M64 ^ (i + 4) = P at *
  generalize M64 ^ i = I at *
  grind

attribute [local irreducible] lb setL

theorem index_word (n i : Nat) (hi : i < 4) (w : World) : (Instr.index 24 (W4 n) (.int .i64 (i : Nat))).run Try.prog w = .ok (.int .u64 (lb n i : Nat)) w := by
  have hc : i = 0 ∨ i = 1 ∨ i = 2 ∨ i = 3 := by omega
  rcases hc with rfl | rfl | rfl | rfl <;> (unfold Instr.index; simp only [Sem.run_bind, run_underlying Try.underlying24, Result.andThen_ok]; go_simp)

set_option maxHeartbeats 4000000 in
/-- product. -/
theorem product_any (a b : Nat) (ha : a < Q256) (hb : b < Q256) (w : World) :
    Calls Try.prog 67 #[W4 a, W4 b] w fun e w' => e = .returned (.agg #[.int .u64 (lb (a * b) 0 : Nat), .int .u64 (lb (a * b) 1 : Nat), .int .u64 (lb (a * b) 2 : Nat), .int .u64 (lb (a * b) 3 : Nat), .int .u64 (lb (a * b) 4 : Nat), .int .u64 (lb (a * b) 5 : Nat), .int .u64 (lb (a * b) 6 : Nat), .int .u64 (lb (a * b) 7 : Nat)]) ∧ Below w.heap.size w w' := by
  obtain ⟨n, hn⟩ : ∃ n, n = a * b := ⟨_, rfl⟩
  rw [← hn]
  have HN := Lib.hid hn
  clear hn
  go_enter Try.func67, Try.ntmps67
  go_wp2
  go_loopw [15] (fun i wr => ∃ j : Nat, j ≤ 4 ∧ i = .int .i64 j ∧ row8 wr (w.heap.size + 1 + 1 + 1) ((a % M64 ^ j) * b) ∧ row8 wr (w.heap.size + 1 + 1) 0 ∧ rowW 24 wr (w.heap.size + 1) b ∧ Below w.heap.size w wr)
    (fun i _ => 4 - (intOf i).toNat)
  case atStart =>
    refine ⟨0, by omega, rfl, ?_, (row8.new0 (by simp)).alloc _, ((rowW.new (by simp)).alloc _).alloc _, ?_⟩
    · rw [Nat.pow_zero, Nat.mod_one, Nat.zero_mul]
      exact row8.new0 (by simp)
    · skip
      repeat (with_reducible first | exact Below.refl _ _ | assumption | refine below_drewN ?_ _ | refine Below.drew ?_ | refine Below.setCell ?_ (by first | omega | (simp; done) | (simp; omega)) _ | refine Below.alloc ?_ (by first | omega | (simp; done) | (simp; omega)) _ | refine Below.trans ?_ (Below.mono (by assumption) (by first | omega | (simp; done) | (simp; omega))))
  case round =>
    obtain ⟨i, hi, rfl, hrow, hres, rb, hbel⟩ := hrel
    have hsz := hrow.lt
    by_cases hi4 : i < 4
    · obtain ⟨b0, b1, b2, b3, bf⟩ := rb.cells
      have ix := fun W => index_word a i hi4 W
      have hdi : decide ((i : Int) < 4) = true := by simp only [decide_eq_true_eq]; omega
      have hxl := lb_lt a i
      generalize hx : lb a i = x at *
      go_wp2
      obtain ⟨wo, hwo⟩ : ∃ wo : World, wo = wr := ⟨_, rfl⟩
      go_loopw [8, 20] (fun ov kk wr => ∃ k m o : Nat, k ≤ 4 ∧ kk = .int .i64 k ∧ ov = .int .u64 o ∧ o < M64 ∧ row8 wr (w.heap.size + 1 + 1 + 1) m ∧ m < M64 ^ (i + 4) ∧ m + o * M64 ^ (i + k) = a % M64 ^ i * b + x * (M64 ^ i * (b % M64 ^ k)) ∧
          row8 wr (w.heap.size + 1 + 1) 0 ∧ rowW 24 wr (w.heap.size + 1) b ∧ Below w.heap.size w wr)
        (fun _ kk _ => 4 - (intOf kk).toNat)
      case atStart =>
        refine ⟨0, _, 0, by omega, rfl, rfl, M64_pos, hrow, ?_, ?_, hres, rb, hbel⟩
        · exact prod_lt hb
        · simp [Nat.mod_one]
      case round =>
        clear hrow hres rb hbel hsz b0 b1 b2 b3 bf
        obtain ⟨k, m, o, hk, rfl, rfl, ho, hrow, hm, hE, hres, rb, hbel⟩ := hrel
        have hsz := hrow.lt
        by_cases hk4 : k < 4
        · have iy := fun W => index_word b k hk4 W
          have hyl := lb_lt b k
          generalize hy : lb b k = y at *
          have hml := lb_lt m (i + k)
          have hcm := hrow.cellAt (j := i + k) (by omega)
          have hfm := hrow.free
          generalize hmj : lb m (i + k) = mj at *
          have hmul := fun W => Mul64_any x y hxl hyl W
          have hp1 : x * y / M64 < M64 := (Nat.div_lt_iff_lt_mul M64_pos).2 (Nat.mul_lt_mul'' hxl hyl)
          have hp0 : x * y % M64 < M64 := Nat.mod_lt _ M64_pos
          have hp := Nat.mod_add_div (x * y) M64
          generalize x * y / M64 = p1 at *
          generalize x * y % M64 = p0 at *
          obtain ⟨l1, c1, hl1, hc1, e1, f1⟩ := add64 p0 mj 0 0 rfl hp0 hml (by omega)
          obtain ⟨l2, c2, hl2, hc2, e2, f2⟩ := add64 l1 o 0 0 rfl hl1 ho (by omega)
          have hst := prod_step hp e1.out e2.out hxl hyl hml ho
          obtain ⟨o', ho'⟩ : ∃ o', o' = p1 + c1 + c2 := ⟨_, rfl⟩
          rw [← ho'] at hst
          have w1 : IntKind.u64.wrap (((p1 : Nat) : Int) + ((c1 : Nat) : Int)) = ((p1 + c1 : Nat) : Int) := u64_wrap_nat (by omega) (by omega)
          have w2 : IntKind.u64.wrap (((p1 + c1 : Nat) : Int) + ((c2 : Nat) : Int)) = ((o' : Nat) : Int) := u64_wrap_nat (by omega) hst.2
          have hnx := Lib.hid (prod_next hE hst.1 (hmj ▸ setL_add m (i + k) l2) (lb_eq_div b k ▸ hy))
          have hml' := Lib.hid (setL_lt (j := i + k) hl2 (by omega) hm)
          have hol := hst.2
          generalize p1 + c1 = q at *
          clear hst hp e1 e2 ho' hE hm hmj hy hx hc1 hc2 hp0 hp1 hml
          go_wp2_with (go_at_call 77; refine (hmul _).mono ?_; rintro e wa ⟨rfl, hb_wa⟩; have hc_wa := (bcell hb_wa).1; have hf_wa := (bcell hb_wa).2; have hz_wa : _ ≤ wa.heap.size := hb_wa.size; (try simp only [World.size_alloc, World.heap_drewN, World.size_setCell, heap_drew] at hc_wa hf_wa hz_wa); have hz_wa_w_0 : w.heap.size < wa.heap.size := (by omega); have hz_wa_w_1 : w.heap.size + 1 < wa.heap.size := (by omega); have hz_wa_w_2 : w.heap.size + 1 + 1 < wa.heap.size := (by omega); have hz_wa_w_3 : w.heap.size + 1 + 1 + 1 < wa.heap.size := (by omega))
          go_roundw
          case rel =>
            refine ⟨k + 1, setL m (i + k) l2, o', by omega, by go_num, rfl, hol, ?_, hml'.out, hnx.out, ?_, ?_, ?_⟩
            · exact row8.store (by omega) hl2 (hrow.below hb_wa hsz)
            · exact (hres.below hb_wa (by omega)).set (by omega)
            · exact (rb.below hb_wa (by omega)).set (by omega)
            repeat (with_reducible first | exact Below.refl _ _ | assumption | refine below_drewN ?_ _ | refine Below.drew ?_ | refine Below.setCell ?_ (by first | omega | (simp; done) | (simp; omega)) _ | refine Below.alloc ?_ (by first | omega | (simp; done) | (simp; omega)) _ | refine Below.trans ?_ (Below.mono (by assumption) (by first | omega | (simp; done) | (simp; omega))))
          case measure => simp [intOf]; omega
        · obtain rfl : k = 4 := by omega
          have hco := hrow.cellAt (j := i + 4) (by omega)
          have hfm := hrow.free
          have hl := Lib.hid (prod_last (by rw [M64_four]; exact hb) hE hm (lb_eq_div a i ▸ hx))
          clear hE hm
          go_wp2
          go_roundw
          case rel =>
            refine ⟨i + 1, by omega, by go_num, ?_, hres.set (by omega), rb.set (by omega), ?_⟩
            · rw [← hl.out]
              exact row8.store (by omega) ho hrow
            repeat (with_reducible first | exact Below.refl _ _ | assumption | refine below_drewN ?_ _ | refine Below.drew ?_ | refine Below.setCell ?_ (by first | omega | (simp; done) | (simp; omega)) _ | refine Below.alloc ?_ (by first | omega | (simp; done) | (simp; omega)) _ | refine Below.trans ?_ (Below.mono (by assumption) (by first | omega | (simp; done) | (simp; omega))))
          case measure => simp [intOf]; omega
    · obtain rfl : i = 4 := by omega
      rw [M64_four, Nat.mod_eq_of_lt ha, ← HN.out] at hrow
      obtain ⟨q0, q1, q2, q3, q4, q5, q6, q7⟩ := hrow.cells
      obtain ⟨z0, z1, z2, z3, z4, z5, z6, z7⟩ := hres.cells
      have zf := hres.free
      clear hrow hres rb
      go_wp2
      refine bodyPost_ret (by simp only [results, Try.results67]; go_simp) rfl ⟨rfl, ?_⟩
      repeat (with_reducible first | exact Below.refl _ _ | assumption | refine below_drewN ?_ _ | refine Below.drew ?_ | refine Below.setCell ?_ (by first | omega | (simp; done) | (simp; omega)) _ | refine Below.alloc ?_ (by first | omega | (simp; done) | (simp; omega)) _ | refine Below.trans ?_ (Below.mono (by assumption) (by first | omega | (simp; done) | (simp; omega))))

theorem lb_low {n i : Nat} (hi : i < 4) : lb (n % Q256) i = lb n i := by
  rw [← M64_four, lb_mod, if_pos hi]

set_option maxHeartbeats 4000000 in
/-- Mul. -/
theorem Mul_any (a b : Nat) (ha : a < Q256) (hb : b < Q256) (w : World) :
    Calls Try.prog 33 #[W4 a, W4 b] w fun e w' => e = .returned (W4 (a * b % Q256)) ∧ Below w.heap.size w w' := by
  have c1 := fun W => product_any a b ha hb W
  unfold W4
  rw [lb_low (n := a * b) (i := 0) (by decide), lb_low (n := a * b) (i := 1) (by decide), lb_low (n := a * b) (i := 2) (by decide), lb_low (n := a * b) (i := 3) (by decide)]
  generalize a * b = n at *
  go_enter Try.func33, Try.ntmps33
  have hA : ∀ A W, (Instr.arrayAt 24 (.slice A 4 8)).run Try.prog W = .ok (.pointer A) W := fun A W => run_arrayAt _ _ _ 4 A 4 8 Try.underlying24 (by decide)
  go_wp2_with (go_at_call 67; refine (c1 _).mono ?_; rintro e wa ⟨rfl, hb_wa⟩; have hc_wa := (bcell hb_wa).1; have hf_wa := (bcell hb_wa).2; have hz_wa : _ ≤ wa.heap.size := hb_wa.size; (try simp only [World.size_alloc, World.heap_drewN, World.size_setCell, heap_drew] at hc_wa hf_wa hz_wa); have hz_wa_w_0 : w.heap.size < wa.heap.size := (by omega); have hz_wa_w_1 : w.heap.size + 1 < wa.heap.size := (by omega); have hz_wa_w_2 : w.heap.size + 1 + 1 < wa.heap.size := (by omega))
  refine bodyPost_ret (by simp only [results, Try.results33]; go_simp) rfl ⟨rfl, ?_⟩
  repeat (with_reducible first | exact Below.refl _ _ | assumption | refine below_drewN ?_ _ | refine Below.drew ?_ | refine Below.setCell ?_ (by first | omega | (simp; done) | (simp; omega)) _ | refine Below.alloc ?_ (by first | omega | (simp; done) | (simp; omega)) _ | refine Below.trans ?_ (Below.mono (by assumption) (by first | omega | (simp; done) | (simp; omega))))
end Go.Proofs.Ytmegpggpndjjcaa
