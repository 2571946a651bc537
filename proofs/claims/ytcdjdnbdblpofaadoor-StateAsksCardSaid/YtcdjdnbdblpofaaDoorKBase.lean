/-
  Rows of numbers of one kind, by the number at each place: plain facts. Conditions: none.
-/
import Derived.Test.YtcdjdnbdblpofaaDoorProg
import Derived.Test.YtcdjdnbdblpofaaDoorFlow2
import Derived.Test.YtcdjdnbdblpofaaDoorRange
import Derived.Test.YtcdjdnbdblpofaaDoorBits
import Derived.Deep.WholeRow
import Derived.Laws.BitsAllLaws
import Derived.IntWalk
namespace Go.Proofs.YtcdjdnbdblpofaaDoor
open Go.RowKit

/-- m cells that hold numbers. -/
def numA (κ : IntKind) (m : Nat) (f : Nat → Nat) : Array Value := Array.ofFn (n := m) fun i => Value.int κ (f i : Nat)

section
variable {κ : IntKind} {m : Nat} {t : TypeId}
theorem numA_size (f : Nat → Nat) : (numA κ m f).size = m := by simp [numA]
theorem numA_get {f : Nat → Nat} {j : Nat} (h : j < m) : (numA κ m f)[j]? = some (.int κ (f j : Nat)) := by simp [numA, h]
theorem numA_congr {f g : Nat → Nat} (h : ∀ j, j < m → f j = g j) : numA κ m f = numA κ m g := by
  unfold numA
  congr 1
  funext i
  rw [h i i.2]
theorem numA_set {f : Nat → Nat} {j b : Nat} : (numA κ m f).setIfInBounds j (.int κ (b : Nat)) = numA κ m (fun k => if k = j then b else f k) := by
  apply Array.ext_getElem?
  intro k
  by_cases hk : k < m
  · rw [numA_get hk, Array.getElem?_setIfInBounds]
    by_cases h : j = k
    · subst h
      simp [numA_size, hk]
    · rw [if_neg h, numA_get hk, if_neg (Ne.symm h)]
  · rw [Array.getElem?_eq_none (by simp [numA_size]; omega), Array.getElem?_eq_none (by simp [numA_size]; omega)]
theorem numA_one (f : Nat → Nat) : (numA κ m f).all (·.oneCell') = true := by
  rw [Array.all_eq_true_iff_forall_mem]
  intro v hv
  obtain ⟨i, hi, rfl⟩ := Array.mem_iff_getElem.1 hv
  simp only [numA, Array.getElem_ofFn]
  rfl

/-- Block k holds the m numbers f. -/
def rowN (κ : IntKind) (m : Nat) (t : TypeId) (W : World) (k : Nat) (f : Nat → Nat) : Prop := W.heap[k]? = some (.cells (numA κ m f) t (0, 0))
variable {W W' : World} {k p j B : Nat} {f g : Nat → Nat}
theorem rowN.lt (h : rowN κ m t W k f) : k < W.heap.size := (Array.getElem?_eq_some_iff.1 h).1
theorem rowN.below (h : rowN κ m t W k f) (hb : Below B W W') (hk : k < B) : rowN κ m t W' k f := (hb.block k hk).trans h
theorem rowN.alloc (h : rowN κ m t W k f) (o : Obj) : rowN κ m t (W.alloc o) k f := (Below.heap_alloc W o k h.lt).trans h
theorem rowN.drewN (h : rowN κ m t W k f) (n : Nat) : rowN κ m t (W.drewN n) k f := h
theorem rowN.drew (h : rowN κ m t W k f) : rowN κ m t W.drew k f := h
theorem rowN.set {v : Value} (h : rowN κ m t W k f) (hk : k ≠ p) : rowN κ m t (W.setCell ⟨p, j, none⟩ v) k f := (heap_set_ne hk).trans h
theorem rowN.new (h : k = W.heap.size) : rowN κ m t (W.alloc (.cells (numA κ m f) t (0, 0))) k f := heap_new h
theorem rowN.cellAt (h : rowN κ m t W k f) (hj : j < m) : W.cell? ⟨k, j, none⟩ = some (.int κ (f j : Nat)) := by
  rw [cell_of_row W k j _ _ _ h, numA_get hj]
theorem rowN.free (h : rowN κ m t W k f) (j : Nat) : W.frozen? ⟨k, j, none⟩ = false := by
  unfold rowN at h
  simp [World.frozen?, h]
theorem rowN.store {b : Nat} (h : rowN κ m t W k f) : rowN κ m t (W.setCell ⟨k, j, none⟩ (.int κ (b : Nat))) k (fun i => if i = j then b else f i) := by
  unfold rowN
  rw [store1 h j (.int κ (b : Nat)), numA_set]
theorem rowN.to (h : rowN κ m t W k f) (e : ∀ j, j < m → f j = g j) : rowN κ m t W k g := by
  unfold rowN
  rw [← numA_congr e]
  exact h
theorem rowN.setRow (g : Nat → Nat) (h : rowN κ m t W k f) : rowN κ m t (W.setRow k (numA κ m g)) k g := setRow_heap W k _ _ _ _ h
theorem rowN.setRow_ne {cs : Array Value} (h : rowN κ m t W k f) (hk : k ≠ p) : rowN κ m t (W.setRow p cs) k f := (setRow_other W p k cs hk).trans h
theorem rowN.storeA {P : Program} (g : Nat → Nat) (h : rowN κ m t W k f) : (storeCells ⟨k, 0, none⟩ (numA κ m g).toList 0).run P W = .ok () (W.setRow k (numA κ m g)) := by
  have := run_storeCells_from (P := P) k t (numA κ m g).toList 0 (numA κ m f) W h (by simp [numA_size]) (fun v hv => (Array.all_eq_true_iff_forall_mem.1 (numA_one g)) v (by simpa using hv))
  simpa using this
end

theorem below_setRow' {B g : Nat} {w0 w : World} (hb : Below B w0 w) (hBg : B ≤ g) (cs : Array Value) : Below B w0 (w.setRow g cs) :=
  ⟨hb.os, hb.tape, hb.output, by simpa using hb.size, fun k hk => (setRow_other w g k cs (by omega)).trans (hb.block k hk)⟩

theorem Fr.setRow {T : Nat → Prop} {A W : World} (h : Fr T A W) {p : Nat} (hp : T p ∨ A.heap.size ≤ p) (cs : Array Value) : Fr T A (W.setRow p cs) :=
  ⟨h.os, h.tape, h.output, by simpa using h.size, fun k hk hT => (setRow_other W p k cs (by rintro rfl; rcases hp with hp | hp; exact hT hp; omega)).trans (h.block k hk hT)⟩

theorem numA_zero (κ : IntKind) (m : Nat) : numA κ m (fun _ => 0) = Array.replicate m (.int κ 0) := by
  apply Array.ext_getElem?
  intro k
  by_cases hk : k < m
  · rw [numA_get hk]
    simp [hk]
  · rw [Array.getElem?_eq_none (by simp [numA_size]; omega), Array.getElem?_eq_none (by simp; omega)]
theorem numA5 (κ : IntKind) : numA κ 5 (fun _ => 0) = #[.int κ 0, .int κ 0, .int κ 0, .int κ 0, .int κ 0] := by
  rw [numA_zero]
  rfl
theorem numA5_lit (κ : IntKind) (f : Nat → Nat) : numA κ 5 f = #[.int κ (f 0 : Nat), .int κ (f 1 : Nat), .int κ (f 2 : Nat), .int κ (f 3 : Nat), .int κ (f 4 : Nat)] := by
  apply Array.ext_getElem?
  intro k
  by_cases hk : k < 5
  · rw [numA_get hk]
    match k, hk with
    | 0, _ => rfl
    | 1, _ => rfl
    | 2, _ => rfl
    | 3, _ => rfl
    | 4, _ => rfl
  · rw [Array.getElem?_eq_none (by simp [numA_size]; omega), Array.getElem?_eq_none (by simp; omega)]
theorem numA25 (κ : IntKind) : numA κ 25 (fun _ => 0) = #[.int κ 0, .int κ 0, .int κ 0, .int κ 0, .int κ 0, .int κ 0, .int κ 0, .int κ 0, .int κ 0, .int κ 0, .int κ 0, .int κ 0, .int κ 0, .int κ 0, .int κ 0, .int κ 0, .int κ 0, .int κ 0, .int κ 0, .int κ 0, .int κ 0, .int κ 0, .int κ 0, .int κ 0, .int κ 0] := by
  rw [numA_zero]
  rfl
theorem numA32 (κ : IntKind) : numA κ 32 (fun _ => 0) = #[.int κ 0, .int κ 0, .int κ 0, .int κ 0, .int κ 0, .int κ 0, .int κ 0, .int κ 0, .int κ 0, .int κ 0, .int κ 0, .int κ 0, .int κ 0, .int κ 0, .int κ 0, .int κ 0, .int κ 0, .int κ 0, .int κ 0, .int κ 0, .int κ 0, .int κ 0, .int κ 0, .int κ 0, .int κ 0, .int κ 0, .int κ 0, .int κ 0, .int κ 0, .int κ 0, .int κ 0, .int κ 0] := by
  rw [numA_zero]
  rfl

/-! ### Lanes -/
theorem xor_lt {a b : Nat} (ha : a < M64) (hb : b < M64) : a ^^^ b < M64 := by
  have := Nat.xor_lt_two_pow (n := 64) (M64_pow ▸ ha) (M64_pow ▸ hb)
  rwa [← M64_pow] at this
theorem or_lt {a b : Nat} (ha : a < M64) (hb : b < M64) : a ||| b < M64 := by
  have := Nat.or_lt_two_pow (n := 64) (M64_pow ▸ ha) (M64_pow ▸ hb)
  rwa [← M64_pow] at this
theorem and_lt {a b : Nat} (ha : a < M64) : a &&& b < M64 := Nat.lt_of_le_of_lt Nat.and_le_left ha

theorem u64_xorN {a b : Nat} (ha : a < M64) (hb : b < M64) : bits .xor .u64 (a : Int) (b : Int) = ((a ^^^ b : Nat) : Int) := u64_xor_nat a b ha hb
theorem u64_orN {a b : Nat} (ha : a < M64) (hb : b < M64) : bits .or .u64 (a : Int) (b : Int) = ((a ||| b : Nat) : Int) := u64_or_nat a b ha hb
theorem u64_andN {a b : Nat} (ha : a < M64) (hb : b < M64) : bits .and .u64 (a : Int) (b : Int) = ((a &&& b : Nat) : Int) := u64_and_nat a b ha hb
theorem u64_wrapN (n : Nat) : IntKind.u64.wrap ((n : Nat) : Int) = ((n % M64 : Nat) : Int) := by
  rw [IntKind.wrap_u64]
  unfold M64
  omega

/-- A lane, turned left. -/
def rotl (x s : Nat) : Nat := x * 2 ^ s % M64 ||| x / 2 ^ (64 - s)
theorem rotl_lt {x s : Nat} (h : x < M64) : rotl x s < M64 := or_lt (Nat.mod_lt _ M64_pos) (Nat.lt_of_le_of_lt (Nat.div_le_self _ _) h)
theorem rotl_zero {x : Nat} (h : x < M64) : rotl x 0 = x := by
  unfold rotl
  rw [Nat.pow_zero, Nat.mul_one, Nat.mod_eq_of_lt h, Nat.sub_zero, ← M64_pow, Nat.div_eq_of_lt h, Nat.or_zero]
/-- A lane's bits, turned over. -/
def notl (x : Nat) : Nat := 18446744073709551615 ^^^ x
theorem notl_lt {x : Nat} (h : x < M64) : notl x < M64 := xor_lt (by decide) h
theorem u64_notN {x : Nat} (h : x < M64) : bits .xor .u64 18446744073709551615 (x : Int) = ((notl x : Nat) : Int) := u64_xorN (a := 18446744073709551615) (by decide) h

end Go.Proofs.YtcdjdnbdblpofaaDoor
