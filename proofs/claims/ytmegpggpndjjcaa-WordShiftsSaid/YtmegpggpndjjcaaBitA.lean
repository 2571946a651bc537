/-
  Rows of 256 bits, by the bit at each place: plain facts. Conditions: none.
-/
import Derived.Test.YtmegpggpndjjcaaProg
import Derived.Test.YtmegpggpndjjcaaFlow2
import Derived.Test.YtmegpggpndjjcaaRange
import Derived.Test.YtmegpggpndjjcaaBits
import Derived.Deep.WholeRow
namespace Go.Proofs.Ytmegpggpndjjcaa
open Go.RowKit

/-- 256 cells that hold bits. -/
def bitA (f : Nat → Bool) : Array Value := Array.ofFn (n := 256) fun i => Value.bool (f i)

theorem bitA_size (f : Nat → Bool) : (bitA f).size = 256 := by simp [bitA]
theorem bitA_get {f : Nat → Bool} {j : Nat} (h : j < 256) : (bitA f)[j]? = some (.bool (f j)) := by simp [bitA, h]
theorem bitA_congr {f g : Nat → Bool} (h : ∀ j, j < 256 → f j = g j) : bitA f = bitA g := by
  unfold bitA
  congr 1
  funext i
  rw [h i i.2]
theorem bitA_set {f : Nat → Bool} {j : Nat} {b : Bool} : (bitA f).setIfInBounds j (.bool b) = bitA (fun k => if k = j then b else f k) := by
  apply Array.ext_getElem?
  intro k
  by_cases hk : k < 256
  · rw [bitA_get hk, Array.getElem?_setIfInBounds]
    by_cases h : j = k
    · subst h
      simp [bitA_size, hk]
    · rw [if_neg h, bitA_get hk, if_neg (Ne.symm h)]
  · rw [Array.getElem?_eq_none (by simp [bitA_size]; omega), Array.getElem?_eq_none (by simp [bitA_size]; omega)]
theorem bitA_one (f : Nat → Bool) : (bitA f).all (·.oneCell') = true := by
  rw [Array.all_eq_true_iff_forall_mem]
  intro v hv
  obtain ⟨i, hi, rfl⟩ := Array.mem_iff_getElem.1 hv
  simp only [bitA, Array.getElem_ofFn]
  rfl

/-- Block k holds the bits f. -/
def rowA (W : World) (k : Nat) (f : Nat → Bool) : Prop := W.heap[k]? = some (.cells (bitA f) 56 (0, 0))
theorem rowA.lt {W : World} {k : Nat} {f : Nat → Bool} (h : rowA W k f) : k < W.heap.size := (Array.getElem?_eq_some_iff.1 h).1
theorem rowA.below {W W' : World} {k B : Nat} {f : Nat → Bool} (h : rowA W k f) (hb : Below B W W') (hk : k < B) : rowA W' k f := (hb.block k hk).trans h
theorem rowA.alloc {W : World} {k : Nat} {f : Nat → Bool} (h : rowA W k f) (o : Obj) : rowA (W.alloc o) k f := (Below.heap_alloc W o k h.lt).trans h
theorem rowA.drewN {W : World} {k : Nat} {f : Nat → Bool} (h : rowA W k f) (n : Nat) : rowA (W.drewN n) k f := h
theorem rowA.drew {W : World} {k : Nat} {f : Nat → Bool} (h : rowA W k f) : rowA W.drew k f := h
theorem rowA.set {W : World} {k p j : Nat} {f : Nat → Bool} {v : Value} (h : rowA W k f) (hk : k ≠ p) : rowA (W.setCell ⟨p, j, none⟩ v) k f := (heap_set_ne hk).trans h
theorem rowA.new {W : World} {k : Nat} {f : Nat → Bool} (h : k = W.heap.size) : rowA (W.alloc (.cells (bitA f) 56 (0, 0))) k f := heap_new h
theorem rowA.cellAt {W : World} {k j : Nat} {f : Nat → Bool} (h : rowA W k f) (hj : j < 256) : W.cell? ⟨k, j, none⟩ = some (.bool (f j)) := by
  rw [cell_of_row W k j _ _ _ h, bitA_get hj]
theorem rowA.free {W : World} {k : Nat} {f : Nat → Bool} (h : rowA W k f) (j : Nat) : W.frozen? ⟨k, j, none⟩ = false := by
  unfold rowA at h
  simp [World.frozen?, h]
theorem rowA.store {W : World} {k j : Nat} {f : Nat → Bool} {b : Bool} (h : rowA W k f) : rowA (W.setCell ⟨k, j, none⟩ (.bool b)) k (fun i => if i = j then b else f i) := by
  unfold rowA
  rw [store1 h j (.bool b), bitA_set]
theorem rowA.to {W : World} {k : Nat} {f g : Nat → Bool} (h : rowA W k f) (e : ∀ j, j < 256 → f j = g j) : rowA W k g := by
  unfold rowA
  rw [← bitA_congr e]
  exact h

theorem underA : Try.prog.underlying 56 = some (.array 256 4) := by kernel_rfl
theorem infoA : (Try.prog.info? 56).map (fun i => (i.zero, i.size)) = some (some (.agg (Array.replicate 256 (.bool false))), 256) := by kernel_rfl
theorem sizeA (f : Nat → Bool) : (Try.prog.info? 56).map (·.size) = some (bitA f).size := by rw [bitA_size]; exact (zero_of_info infoA).2
theorem zeroA (w : World) : (zeroValue 56).run Try.prog w = .ok (.agg (bitA fun _ => false)) w := by
  have : bitA (fun _ => false) = Array.replicate 256 (.bool false) := by
    apply Array.ext_getElem?
    intro k
    by_cases hk : k < 256
    · rw [bitA_get hk]; simp [hk]
    · rw [Array.getElem?_eq_none (by simp [bitA_size]; omega), Array.getElem?_eq_none (by simp; omega)]
  rw [this]
  exact (zero_of_info infoA).1 w

/-- The whole row out of its block. -/
theorem loadA {W : World} {k : Nat} {f : Nat → Bool} (h : rowA W k f) : (Instr.loadAt 56 (.pointer (some ⟨k, 0, none⟩))).run Try.prog W = .ok (.agg (bitA f)) W := by
  simp only [Instr.loadAt, Instr.sureAddr, Sem.run_bind, Sem.run_pure, Result.andThen]
  exact run_loadVar_row W k _ _ _ _ _ h underA rfl (sizeA f)
/-- The whole row into its block. -/
theorem storeA {W : World} {k : Nat} {f : Nat → Bool} (g : Nat → Bool) (h : rowA W k f) : (Instr.storeAt 56 (.pointer (some ⟨k, 0, none⟩)) (.agg (bitA g))).run Try.prog W = .ok () (W.setRow k (bitA g)) := by
  simp only [Instr.storeAt, Instr.sureAddr, Sem.run_bind, Sem.run_pure, Result.andThen]
  exact run_storeVar_row W k _ _ _ _ h (sizeA g) (by rw [bitA_size, bitA_size]) (bitA_one g)
theorem storeA' {W : World} {k : Nat} {f : Nat → Bool} (g : Nat → Bool) (h : rowA W k f) : (storeCells ⟨k, 0, none⟩ (bitA g).toList 0).run Try.prog W = .ok () (W.setRow k (bitA g)) := by
  have := run_storeCells_from (P := Try.prog) k 56 (bitA g).toList 0 (bitA f) W h (by simp [bitA_size]) (fun v hv => (Array.all_eq_true_iff_forall_mem.1 (bitA_one g)) v (by simpa using hv))
  simpa using this
theorem rowA.setRow {W : World} {k : Nat} {f : Nat → Bool} (g : Nat → Bool) (h : rowA W k f) : rowA (W.setRow k (bitA g)) k g := setRow_heap W k _ _ _ _ h
theorem rowA.setRow_ne {W : World} {k p : Nat} {cs : Array Value} {f : Nat → Bool} (h : rowA W k f) (hk : k ≠ p) : rowA (W.setRow p cs) k f := (setRow_other W p k cs hk).trans h

theorem below_setRow' {B g : Nat} {w0 w : World} (hb : Below B w0 w) (hBg : B ≤ g) (cs : Array Value) : Below B w0 (w.setRow g cs) :=
  ⟨hb.os, hb.tape, hb.output, by simpa using hb.size, fun k hk => (setRow_other w g k cs (by omega)).trans (hb.block k hk)⟩

end Go.Proofs.Ytmegpggpndjjcaa
