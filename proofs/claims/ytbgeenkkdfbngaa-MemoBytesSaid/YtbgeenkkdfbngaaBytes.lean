/-
  Rows of 32 bytes, and the contracts of word.Bytes and of the document's Bytes. Conditions: none.
-/
import Derived.Test.YtbgeenkkdfbngaaByteW
import Derived.Test.YtbgeenkkdfbngaaR1
import Derived.Deep.WholeRow
import Derived.Laws.BytesString
import Derived.OwnWalk
namespace Go.Proofs.Ytbgeenkkdfbngaa
open Go.RowKit
attribute [local go_sem] leftBy
set_option linter.unusedSimpArgs false
set_option linter.unusedVariables false


/-- 32 cells that hold bytes. -/
def byA (f : Nat → Nat) : Array Value := Array.ofFn (n := 32) fun i => Value.int .u8 (f i : Nat)
theorem byA_size (f : Nat → Nat) : (byA f).size = 32 := by simp [byA]
theorem byA_get {f : Nat → Nat} {j : Nat} (h : j < 32) : (byA f)[j]? = some (.int .u8 (f j : Nat)) := by simp [byA, h]
theorem byA_congr {f g : Nat → Nat} (h : ∀ j, j < 32 → f j = g j) : byA f = byA g := by
  unfold byA
  congr 1
  funext i
  rw [h i i.2]
theorem byA_set {f : Nat → Nat} {j b : Nat} : (byA f).setIfInBounds j (.int .u8 (b : Nat)) = byA (fun k => if k = j then b else f k) := by
  apply Array.ext_getElem?
  intro k
  by_cases hk : k < 32
  · rw [byA_get hk, Array.getElem?_setIfInBounds]
    by_cases h : j = k
    · subst h
      simp [byA_size, hk]
    · rw [if_neg h, byA_get hk, if_neg (Ne.symm h)]
  · rw [Array.getElem?_eq_none (by simp [byA_size]; omega), Array.getElem?_eq_none (by simp [byA_size]; omega)]
theorem byA_zero : byA (fun _ => 0) = #[.int .u8 0, .int .u8 0, .int .u8 0, .int .u8 0, .int .u8 0, .int .u8 0, .int .u8 0, .int .u8 0, .int .u8 0, .int .u8 0, .int .u8 0, .int .u8 0, .int .u8 0, .int .u8 0, .int .u8 0, .int .u8 0, .int .u8 0, .int .u8 0, .int .u8 0, .int .u8 0, .int .u8 0, .int .u8 0, .int .u8 0, .int .u8 0, .int .u8 0, .int .u8 0, .int .u8 0, .int .u8 0, .int .u8 0, .int .u8 0, .int .u8 0, .int .u8 0] := by
  unfold byA
  rfl

/-- Block k holds the bytes f. -/
def rowY (W : World) (k : Nat) (f : Nat → Nat) : Prop := W.heap[k]? = some (.cells (byA f) 50 (0, 0))
theorem rowY.lt {W : World} {k : Nat} {f : Nat → Nat} (h : rowY W k f) : k < W.heap.size := (Array.getElem?_eq_some_iff.1 h).1
theorem rowY.cellAt {W : World} {k j : Nat} {f : Nat → Nat} (h : rowY W k f) (hj : j < 32) : W.cell? ⟨k, j, none⟩ = some (.int .u8 (f j : Nat)) := by
  rw [cell_of_row W k j _ _ _ h, byA_get hj]
theorem rowY.free {W : World} {k : Nat} {f : Nat → Nat} (h : rowY W k f) (j : Nat) : W.frozen? ⟨k, j, none⟩ = false := by
  unfold rowY at h
  simp [World.frozen?, h]
theorem rowY.store {W : World} {k j b : Nat} {f : Nat → Nat} (h : rowY W k f) : rowY (W.setCell ⟨k, j, none⟩ (.int .u8 (b : Nat))) k (fun i => if i = j then b else f i) := by
  unfold rowY
  rw [store1 h j (.int .u8 (b : Nat)), byA_set]
theorem rowY.to {W : World} {k : Nat} {f g : Nat → Nat} (h : rowY W k f) (e : ∀ j, j < 32 → f j = g j) : rowY W k g := by
  unfold rowY
  rw [← byA_congr e]
  exact h

/-- A word's bytes, the highest first, as a string. -/
def bytesL (a : Nat) : List Int := (List.range 32).map fun k => ((byteOf a (31 - k) : Nat) : Int)
def bytesS (a : Nat) : ByteArray := (bytesL a).foldl (fun r n => r.push (UInt8.ofNat n.toNat)) ByteArray.empty

/-- The bytes that a loop has filled so far. -/
def byT (a j : Nat) : Nat → Nat := fun k => if k < j then byteOf a (31 - k) else 0
theorem byT_low (a k : Nat) : byT a 0 k = 0 := by unfold byT; simp
theorem byT_all (a k : Nat) (h : k < 32) : byT a 32 k = byteOf a (31 - k) := by unfold byT; rw [if_pos h]
theorem byT_succ (a j k : Nat) : (if k = j then byteOf a (31 - j) else byT a j k) = byT a (j + 1) k := by
  unfold byT
  by_cases h : k = j
  · subst h
    rw [if_pos rfl, if_pos (by omega)]
  · rw [if_neg h]
    by_cases h2 : k < j
    · rw [if_pos h2, if_pos (by omega)]
    · rw [if_neg h2, if_neg (by omega)]

/-- The conversion of the bytes to a string. -/
theorem string_of {W : World} {k cap a : Nat} (hc : ∀ j, j < 32 → W.cell? ⟨k, j, none⟩ = some (.int .u8 (byteOf a (31 - j) : Nat))) : (convert 51 9 (.slice (some ⟨k, 0, none⟩) 32 cap)).run Try.prog W = .ok (.string (bytesS a)) W := by
  rw [run_convert_bytes_string W 51 9 5 _ _ _ Try.underlying51 Try.underlying5 Try.underlying9]
  refine run_bytesToString W _ 32 cap (bytesL a) ?_
  have hadd : ∀ q j : Nat, (⟨q, 0, none⟩ : Addr).add j = ⟨q, j, none⟩ := fun q j => by unfold Addr.add; split <;> simp_all
  have hl : ((bytesL a).map (Value.int .u8)).length = 32 := by simp [bytesL]
  have := run_loadCells_list (P := Try.prog) W ⟨k, 0, none⟩ ((bytesL a).map (Value.int .u8)) (fun j v hv => by
    have hj : j < 32 := by
      have := (List.getElem?_eq_some_iff.1 hv).1
      omega
    have h3 : ((bytesL a).map (Value.int .u8))[j]? = some (.int .u8 (byteOf a (31 - j) : Nat)) := by simp [bytesL, hj]
    rw [h3] at hv
    injection hv with hv
    subst hv
    rw [hadd]
    exact hc j hj)
  rw [hl] at this
  exact this

attribute [local irreducible] lb byteOf byA byT bytesS

set_option maxRecDepth 100000 in
set_option maxHeartbeats 4000000 in
/-- word.Bytes. -/
theorem Bytes_any (a : Nat) (ha : a < Q256) (w : World) :
    Calls Try.prog 15 #[W4 a] w fun e w' => e = .returned (.string (bytesS a)) ∧ Below w.heap.size w w' := by
  go_enter Try.func15, Try.ntmps15
  go_wp2
  rw [← byA_zero]
  go_loopw [5] (fun i wr => ∃ j : Nat, j ≤ 32 ∧ i = .int .i64 j ∧ rowY wr (w.heap.size + 1) (byT a j) ∧ rowW 24 wr w.heap.size a ∧ Below w.heap.size w wr)
    (fun i _ => 32 - (intOf i).toNat)
  case atStart =>
    refine ⟨0, by omega, rfl, ?_, (rowW.new rfl).alloc _, ?_⟩
    · exact (show rowY _ _ (fun _ => 0) from heap_new (by simp)).to fun k _ => (byT_low a k).symm
    · skip
      repeat (with_reducible first | exact Below.refl _ _ | assumption | refine below_drewN ?_ _ | refine Below.drew ?_ | refine Below.setCell ?_ (by first | omega | (simp; done) | (simp; omega)) _ | refine Below.alloc ?_ (by first | omega | (simp; done) | (simp; omega)) _ | refine Below.trans ?_ (Below.mono (by assumption) (by first | omega | (simp; done) | (simp; omega))))
  case round =>
    obtain ⟨j, hj, rfl, hrow, ra, hbel⟩ := hrel
    have hsz := hrow.lt
    have hrf := hrow.free
    by_cases h32 : j < 32
    · have co := hrow.cellAt h32
      have hbl := byteOf_lb a (3 - j / 8) (7 - j % 8) (by omega)
      rw [show 8 * (3 - j / 8) + (7 - j % 8) = 31 - j by omega, show 8 * (7 - j % 8) = 56 - 8 * (j % 8) by omega] at hbl
      have cp := ra.cellAt (j := 3 - j / 8) (by omega)
      have hv : ((lb a (3 - j / 8) : Nat) : Int) / 2 ^ (56 - 8 * (j % 8)) % 256 = ((byteOf a (31 - j) : Nat) : Int) := by rw [← hbl]; push_cast; rfl
      clear hbl
      go_wp2
      go_roundw
      case rel =>
        refine ⟨j + 1, by omega, by go_num, hrow.store.to fun k _ => byT_succ a j k, ra.set (by omega), ?_⟩
        repeat (with_reducible first | exact Below.refl _ _ | assumption | refine below_drewN ?_ _ | refine Below.drew ?_ | refine Below.setCell ?_ (by first | omega | (simp; done) | (simp; omega)) _ | refine Below.alloc ?_ (by first | omega | (simp; done) | (simp; omega)) _ | refine Below.trans ?_ (Below.mono (by assumption) (by first | omega | (simp; done) | (simp; omega))))
      case measure => simp [intOf]; omega
    · obtain rfl : j = 32 := by omega
      have hrow' := hrow.to (byT_all a)
      have hcv := string_of (cap := 32) fun j hj => hrow'.cellAt hj
      clear hrow
      go_wp2
      go_ret
      refine ⟨rfl, ?_⟩
      repeat (with_reducible first | exact Below.refl _ _ | assumption | refine below_drewN ?_ _ | refine Below.drew ?_ | refine Below.setCell ?_ (by first | omega | (simp; done) | (simp; omega)) _ | refine Below.alloc ?_ (by first | omega | (simp; done) | (simp; omega)) _ | refine Below.trans ?_ (Below.mono (by assumption) (by first | omega | (simp; done) | (simp; omega))))
end Go.Proofs.Ytbgeenkkdfbngaa
