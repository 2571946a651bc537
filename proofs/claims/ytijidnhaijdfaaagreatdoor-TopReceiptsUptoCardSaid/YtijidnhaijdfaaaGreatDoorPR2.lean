/-
  Texts of one proof, one behind the other. Conditions: each text's own line says them.
-/
import Derived.Test.YtijidnhaijdfaaaGreatDoorPR1
import Derived.Deep.WholeRow
import Derived.Laws.BytesString
import Derived.OwnWalk
import Derived.Test.YtijidnhaijdfaaaGreatDoorFlow
import Derived.WalkMore
import Derived.Lib.Hide

/- Rows of 32 bytes, and the contracts of word.Bytes and of the document's Bytes. Conditions: none. -/
namespace Go.Proofs.YtijidnhaijdfaaaGreatDoor
open Go.RowKit
attribute [local go_sem] leftBy
set_option linter.unusedSimpArgs false
set_option linter.unusedVariables false


/-- 32 cells that hold bytes. -/
def byA (f : Nat → Nat) : Array Value := Array.ofFn (n := 32) fun i => Value.int .u8 (f i : Nat)
theorem byA_size (f : Nat → Nat) : (byA f).size = 32 := by simp [byA]
theorem byA_get {f : Nat → Nat} {j : Nat} (h : j < 32) : (byA f)[j]? = some (.int .u8 (f j : Nat)) := by simp [byA, h]
theorem byA_congr {f g : Nat → Nat} (h : ∀ j, j < 32 → f j = g j) : byA f = byA g := by
  unfold byA
  congr 1
  funext i
  rw [h i i.2]
theorem byA_set {f : Nat → Nat} {j b : Nat} : (byA f).setIfInBounds j (.int .u8 (b : Nat)) = byA (fun k => if k = j then b else f k) := by
  apply Array.ext_getElem?
  intro k
  by_cases hk : k < 32
  · rw [byA_get hk, Array.getElem?_setIfInBounds]
    by_cases h : j = k
    · subst h
      simp [byA_size, hk]
    · rw [if_neg h, byA_get hk, if_neg (Ne.symm h)]
  · rw [Array.getElem?_eq_none (by simp [byA_size]; omega), Array.getElem?_eq_none (by simp [byA_size]; omega)]
theorem byA_zero : byA (fun _ => 0) = #[.int .u8 0, .int .u8 0, .int .u8 0, .int .u8 0, .int .u8 0, .int .u8 0, .int .u8 0, .int .u8 0, .int .u8 0, .int .u8 0, .int .u8 0, .int .u8 0, .int .u8 0, .int .u8 0, .int .u8 0, .int .u8 0, .int .u8 0, .int .u8 0, .int .u8 0, .int .u8 0, .int .u8 0, .int .u8 0, .int .u8 0, .int .u8 0, .int .u8 0, .int .u8 0, .int .u8 0, .int .u8 0, .int .u8 0, .int .u8 0, .int .u8 0, .int .u8 0] := by
  unfold byA
  rfl

/-- Block k holds the bytes f. -/
def rowY (W : World) (k : Nat) (f : Nat → Nat) : Prop := W.heap[k]? = some (.cells (byA f) 65 (0, 0))
theorem rowY.lt {W : World} {k : Nat} {f : Nat → Nat} (h : rowY W k f) : k < W.heap.size := (Array.getElem?_eq_some_iff.1 h).1
theorem rowY.cellAt {W : World} {k j : Nat} {f : Nat → Nat} (h : rowY W k f) (hj : j < 32) : W.cell? ⟨k, j, none⟩ = some (.int .u8 (f j : Nat)) := by
  rw [cell_of_row W k j _ _ _ h, byA_get hj]
theorem rowY.free {W : World} {k : Nat} {f : Nat → Nat} (h : rowY W k f) (j : Nat) : W.frozen? ⟨k, j, none⟩ = false := by
  unfold rowY at h
  simp [World.frozen?, h]
theorem rowY.store {W : World} {k j b : Nat} {f : Nat → Nat} (h : rowY W k f) : rowY (W.setCell ⟨k, j, none⟩ (.int .u8 (b : Nat))) k (fun i => if i = j then b else f i) := by
  unfold rowY
  rw [store1 h j (.int .u8 (b : Nat)), byA_set]
theorem rowY.to {W : World} {k : Nat} {f g : Nat → Nat} (h : rowY W k f) (e : ∀ j, j < 32 → f j = g j) : rowY W k g := by
  unfold rowY
  rw [← byA_congr e]
  exact h

/-- A word's bytes, the highest first, as a string. -/
def bytesL (a : Nat) : List Int := (List.range 32).map fun k => ((byteOf a (31 - k) : Nat) : Int)
def bytesS (a : Nat) : ByteArray := (bytesL a).foldl (fun r n => r.push (UInt8.ofNat n.toNat)) ByteArray.empty

/-- The bytes that a loop has filled so far. -/
def byT (a j : Nat) : Nat → Nat := fun k => if k < j then byteOf a (31 - k) else 0
theorem byT_low (a k : Nat) : byT a 0 k = 0 := by unfold byT; simp
theorem byT_all (a k : Nat) (h : k < 32) : byT a 32 k = byteOf a (31 - k) := by unfold byT; rw [if_pos h]
theorem byT_succ (a j k : Nat) : (if k = j then byteOf a (31 - j) else byT a j k) = byT a (j + 1) k := by
  unfold byT
  by_cases h : k = j
  · subst h
    rw [if_pos rfl, if_pos (by omega)]
  · rw [if_neg h]
    by_cases h2 : k < j
    · rw [if_pos h2, if_pos (by omega)]
    · rw [if_neg h2, if_neg (by omega)]

/-- The conversion of the bytes to a string. -/
theorem wstring_of {W : World} {k cap a : Nat} (hc : ∀ j, j < 32 → W.cell? ⟨k, j, none⟩ = some (.int .u8 (byteOf a (31 - j) : Nat))) : (convert 60 9 (.slice (some ⟨k, 0, none⟩) 32 cap)).run Tryz.prog W = .ok (.string (bytesS a)) W := by
  rw [run_convert_bytes_string W 60 9 5 _ _ _ Tryz.underlying60 Tryz.underlying5 Tryz.underlying9]
  refine run_bytesToString W _ 32 cap (bytesL a) ?_
  have hadd : ∀ q j : Nat, (⟨q, 0, none⟩ : Addr).add j = ⟨q, j, none⟩ := fun q j => by unfold Addr.add; split <;> simp_all
  have hl : ((bytesL a).map (Value.int .u8)).length = 32 := by simp [bytesL]
  have := run_loadCells_list (P := Tryz.prog) W ⟨k, 0, none⟩ ((bytesL a).map (Value.int .u8)) (fun j v hv => by
    have hj : j < 32 := by
      have := (List.getElem?_eq_some_iff.1 hv).1
      omega
    have h3 : ((bytesL a).map (Value.int .u8))[j]? = some (.int .u8 (byteOf a (31 - j) : Nat)) := by simp [bytesL, hj]
    rw [h3] at hv
    injection hv with hv
    subst hv
    rw [hadd]
    exact hc j hj)
  rw [hl] at this
  exact this

attribute [local irreducible] lb byteOf byA byT bytesS

set_option maxRecDepth 100000 in
set_option maxHeartbeats 4000000 in
/-- word.Bytes. -/
theorem Bytes_any (a : Nat) (ha : a < Q256) (w : World) :
    Calls Tryz.prog 37 #[W4 a] w fun e w' => e = .returned (.string (bytesS a)) ∧ Below w.heap.size w w' := by
  go_enter Tryz.func37, Tryz.ntmps37
  go_wp2
  rw [← byA_zero]
  go_loopw [5] (fun i wr => ∃ j : Nat, j ≤ 32 ∧ i = .int .i64 j ∧ rowY wr (w.heap.size + 1) (byT a j) ∧ rowW 31 wr w.heap.size a ∧ Below w.heap.size w wr)
    (fun i _ => 32 - (intOf i).toNat)
  case atStart =>
    refine ⟨0, by omega, rfl, ?_, (rowW.new rfl).alloc _, ?_⟩
    · exact (show rowY _ _ (fun _ => 0) from heap_new (by simp)).to fun k _ => (byT_low a k).symm
    · skip
      repeat (with_reducible first | exact Below.refl _ _ | assumption | refine below_drewN ?_ _ | refine Below.drew ?_ | refine Below.setCell ?_ (by first | omega | (simp; done) | (simp; omega)) _ | refine Below.alloc ?_ (by first | omega | (simp; done) | (simp; omega)) _ | refine Below.trans ?_ (Below.mono (by assumption) (by first | omega | (simp; done) | (simp; omega))))
  case round =>
    obtain ⟨j, hj, rfl, hrow, ra, hbel⟩ := hrel
    have hsz := hrow.lt
    have hrf := hrow.free
    by_cases h32 : j < 32
    · have co := hrow.cellAt h32
      have hbl := byteOf_lb a (3 - j / 8) (7 - j % 8) (by omega)
      rw [show 8 * (3 - j / 8) + (7 - j % 8) = 31 - j by omega, show 8 * (7 - j % 8) = 56 - 8 * (j % 8) by omega] at hbl
      have cp := ra.cellAt (j := 3 - j / 8) (by omega)
      have hv : ((lb a (3 - j / 8) : Nat) : Int) / 2 ^ (56 - 8 * (j % 8)) % 256 = ((byteOf a (31 - j) : Nat) : Int) := by rw [← hbl]; push_cast; rfl
      clear hbl
      go_wp2
      go_roundw
      case rel =>
        refine ⟨j + 1, by omega, by go_num, hrow.store.to fun k _ => byT_succ a j k, ra.set (by omega), ?_⟩
        repeat (with_reducible first | exact Below.refl _ _ | assumption | refine below_drewN ?_ _ | refine Below.drew ?_ | refine Below.setCell ?_ (by first | omega | (simp; done) | (simp; omega)) _ | refine Below.alloc ?_ (by first | omega | (simp; done) | (simp; omega)) _ | refine Below.trans ?_ (Below.mono (by assumption) (by first | omega | (simp; done) | (simp; omega))))
      case measure => simp [intOf]; omega
    · obtain rfl : j = 32 := by omega
      have hrow' := hrow.to (byT_all a)
      have hcv := wstring_of (cap := 32) fun j hj => hrow'.cellAt hj
      clear hrow
      go_wp2
      go_ret
      refine ⟨rfl, ?_⟩
      repeat (with_reducible first | exact Below.refl _ _ | assumption | refine below_drewN ?_ _ | refine Below.drew ?_ | refine Below.setCell ?_ (by first | omega | (simp; done) | (simp; omega)) _ | refine Below.alloc ?_ (by first | omega | (simp; done) | (simp; omega)) _ | refine Below.trans ?_ (Below.mono (by assumption) (by first | omega | (simp; done) | (simp; omega))))
end Go.Proofs.YtijidnhaijdfaaaGreatDoor

/- Bytes as a word: the contracts of word.From and of the document's From. Conditions: none. -/
namespace Go.Proofs.YtijidnhaijdfaaaGreatDoor
open Go.RowKit
attribute [local go_sem] leftBy
set_option linter.unusedSimpArgs false
set_option linter.unusedVariables false


/-- The number of the lowest n of the bytes f. -/
def orF (f : Nat → Nat) : Nat → Nat
  | 0 => 0
  | n + 1 => orF f n ||| f n * 2 ^ (8 * n)
/-- The number of the highest j of the first m of the bytes f. -/
def orD (f : Nat → Nat) (m : Nat) : Nat → Nat
  | 0 => 0
  | j + 1 => orD f m j ||| f (m - 1 - j) * 2 ^ (8 * (m - 1 - j))
theorem orF_zero (f : Nat → Nat) : orF f 0 = 0 := rfl
theorem orF_succ (f : Nat → Nat) (n : Nat) : orF f (n + 1) = orF f n ||| f n * 2 ^ (8 * n) := rfl
theorem orD_zero (f : Nat → Nat) (m : Nat) : orD f m 0 = 0 := rfl
theorem orD_succ (f : Nat → Nat) (m j : Nat) : orD f m (j + 1) = orD f m j ||| f (m - 1 - j) * 2 ^ (8 * (m - 1 - j)) := rfl

theorem byte_bit {b t : Nat} (h : b < 256) (ht : 8 ≤ t) : b.testBit t = false := Nat.testBit_lt_two_pow (Nat.lt_of_lt_of_le h (Nat.pow_le_pow_right (n := 2) (by decide) ht : 2 ^ 8 ≤ 2 ^ t))

theorem byte_at {b : Nat} (h : b < 256) (n t : Nat) : (b * 2 ^ (8 * n)).testBit t = (decide (t / 8 = n) && b.testBit (t % 8)) := by
  rw [Nat.testBit_mul_two_pow]
  by_cases h1 : t / 8 = n
  · rw [decide_eq_true (show t ≥ 8 * n by omega), decide_eq_true h1, show t - 8 * n = t % 8 by omega]
  · rw [decide_eq_false h1]
    by_cases h2 : t ≥ 8 * n
    · rw [byte_bit h (by omega)]
      simp
    · simp [h2]

theorem orF_bit {f : Nat → Nat} (hf : ∀ k, f k < 256) : ∀ n t, (orF f n).testBit t = (decide (t / 8 < n) && (f (t / 8)).testBit (t % 8))
  | 0, t => by simp [orF]
  | n + 1, t => by
    rw [orF_succ, Nat.testBit_or, orF_bit hf n, byte_at (hf n)]
    by_cases h : t / 8 = n
    · rw [h]
      simp
    · by_cases h2 : t / 8 < n
      · simp [h, h2, show t / 8 < n + 1 by omega]
      · simp [h, h2, show ¬ t / 8 < n + 1 by omega]

theorem orD_bit {f : Nat → Nat} (hf : ∀ k, f k < 256) (m : Nat) : ∀ j, j ≤ m → ∀ t, (orD f m j).testBit t = (decide (m - j ≤ t / 8 ∧ t / 8 < m) && (f (t / 8)).testBit (t % 8))
  | 0, _, t => by
    have : ¬ (m - 0 ≤ t / 8 ∧ t / 8 < m) := by omega
    simp only [orD, this, decide_false, Bool.false_and, Nat.zero_testBit]
  | j + 1, hj, t => by
    rw [orD_succ, Nat.testBit_or, orD_bit hf m j (by omega), byte_at (hf _)]
    by_cases h : t / 8 = m - 1 - j
    · rw [h]
      have h1 : m - (j + 1) ≤ m - 1 - j ∧ m - 1 - j < m := by omega
      have h2 : ¬ (m - j ≤ m - 1 - j ∧ m - 1 - j < m) := by omega
      simp [h1, h2]
    · have h1 : (m - (j + 1) ≤ t / 8 ∧ t / 8 < m) ↔ (m - j ≤ t / 8 ∧ t / 8 < m) := by omega
      simp only [h1, h, decide_false, Bool.false_and, Bool.or_false]

theorem orD_all {f : Nat → Nat} (hf : ∀ k, f k < 256) (m : Nat) : orD f m m = orF f m := by
  refine Nat.eq_of_testBit_eq fun t => ?_
  rw [orD_bit hf m m (Nat.le_refl _), orF_bit hf]
  congr 1
  rw [decide_eq_decide]
  omega

theorem orF_lt {f : Nat → Nat} (hf : ∀ k, f k < 256) {n : Nat} (h : n ≤ 32) : orF f n < Q256 := by
  rw [Q256_pow]
  refine Nat.lt_pow_two_of_testBit _ fun t ht => ?_
  rw [orF_bit hf]
  have : ¬ t / 8 < n := by omega
  simp [this]

theorem orD_lt {f : Nat → Nat} (hf : ∀ k, f k < 256) {m j : Nat} (h : m ≤ 32) (hj : j ≤ m) : orD f m j < Q256 := by
  rw [Q256_pow]
  refine Nat.lt_pow_two_of_testBit _ fun t ht => ?_
  rw [orD_bit hf m j hj]
  have : ¬ (m - j ≤ t / 8 ∧ t / 8 < m) := by omega
  rw [decide_eq_false this, Bool.false_and]

theorem byteOf_bit (a k t : Nat) : (byteOf a k).testBit t = (decide (t < 8) && a.testBit (8 * k + t)) := by
  unfold byteOf
  rw [show (256 : Nat) = 2 ^ 8 by decide, ← Nat.pow_mul, Nat.testBit_mod_two_pow, Nat.testBit_div_two_pow, Nat.add_comm t]

/-- A word is the number of its bytes. -/
theorem orF_word {a : Nat} (ha : a < Q256) {f : Nat → Nat} (hf : ∀ k, k < 32 → f k = byteOf a k) (hb : ∀ k, f k < 256) : orF f 32 = a := by
  refine Nat.eq_of_testBit_eq fun t => ?_
  rw [orF_bit hb]
  by_cases h : t < 256
  · rw [decide_eq_true (show t / 8 < 32 by omega), Bool.true_and, hf _ (by omega), byteOf_bit, decide_eq_true (show t % 8 < 8 by omega), Bool.true_and]
    congr 1
    omega
  · rw [decide_eq_false (show ¬ t / 8 < 32 by omega), Bool.false_and]
    exact (Nat.testBit_lt_two_pow (Nat.lt_of_lt_of_le (Q256_pow ▸ ha) (Nat.pow_le_pow_right (by decide) (by omega)))).symm

/-- One byte more, as it lies in its part. -/
theorem lb_or_byte {X b k j : Nat} (hb : b < 256) : lb (X ||| b * 2 ^ (8 * k)) j = if j = k / 8 then lb X j ||| b * 2 ^ (8 * (k % 8)) else lb X j := by
  refine Nat.eq_of_testBit_eq fun t => ?_
  have h0 : (lb (X ||| b * 2 ^ (8 * k)) j).testBit t = (decide (t < 64) && (X.testBit (64 * j + t) || (decide ((64 * j + t) / 8 = k) && b.testBit ((64 * j + t) % 8)))) := by
    rw [lb_testBit, Nat.testBit_or, byte_at hb]
  rw [h0]
  split
  · rename_i h
    rw [Nat.testBit_or, byte_at hb, lb_testBit]
    by_cases h64 : t < 64
    · have e1 : (64 * j + t) / 8 = k ↔ t / 8 = k % 8 := by omega
      have e2 : (64 * j + t) % 8 = t % 8 := by omega
      simp only [h64, decide_true, Bool.true_and, e1, e2]
    · have e1 : ¬ t / 8 = k % 8 := by omega
      simp only [h64, decide_false, Bool.false_and, e1, Bool.or_false]
  · rename_i h
    rw [lb_testBit]
    by_cases h64 : t < 64
    · have e1 : ¬ (64 * j + t) / 8 = k := by omega
      simp only [e1, decide_false, Bool.false_and, Bool.or_false]
    · simp only [h64, decide_false, Bool.false_and]

theorem or_byte_bits {X b k : Nat} (hb : b < 256) : bits .or .u64 ((lb X (k / 8) : Nat) : Int) (IntKind.u64.wrap ((b : Nat) * 2 ^ (8 * (k % 8)))) = ((lb (X ||| b * 2 ^ (8 * k)) (k / 8) : Nat) : Int) := by
  have h2 : b * 2 ^ (8 * (k % 8)) < 18446744073709551616 := by
    have h1 : 2 ^ (8 * (k % 8)) ≤ 2 ^ 56 := Nat.pow_le_pow_right (by decide) (by omega)
    calc b * 2 ^ (8 * (k % 8)) ≤ 255 * 2 ^ 56 := Nat.mul_le_mul (by omega) h1
      _ < 18446744073709551616 := by decide
  have h3 : IntKind.u64.wrap ((b : Int) * 2 ^ (8 * (k % 8))) = ((b * 2 ^ (8 * (k % 8)) : Nat) : Int) := by
    have e : ((b : Int) * 2 ^ (8 * (k % 8))) = ((b * 2 ^ (8 * (k % 8)) : Nat) : Int) := by push_cast; rfl
    have h4 : ∀ z : Nat, z < 18446744073709551616 → IntKind.u64.wrap (z : Int) = (z : Int) := fun z hz => IntWalk.u64_in _ (by omega)
    rw [e]
    exact h4 _ h2
  rw [h3, u64_or_nat _ _ (lb_lt _ _) h2, lb_or_byte hb, if_pos rfl]

theorem or_byte_row {t : TypeId} {W : World} {p X b k : Nat} (hb : b < 256) (hk : k < 32) (h : rowW t W p X) : rowW t (W.setCell ⟨p, k / 8, none⟩ (.int .u64 (lb (X ||| b * 2 ^ (8 * k)) (k / 8) : Nat))) p (X ||| b * 2 ^ (8 * k)) :=
  store_row (by omega) h fun i _ hij => by rw [lb_or_byte hb, if_neg hij]

/-- Byte j of a string, and byte k from its end. -/
def byteN (s : ByteArray) (j : Nat) : Nat := if h : j < s.size then s[j].toNat else 0
def byteR (s : ByteArray) (k : Nat) : Nat := if k < s.size then byteN s (s.size - 1 - k) else 0
theorem byteN_lt (s : ByteArray) (j : Nat) : byteN s j < 256 := by
  unfold byteN
  split
  · exact s[j].toNat_lt
  · decide
theorem byteR_lt (s : ByteArray) (k : Nat) : byteR s k < 256 := by
  unfold byteR
  split
  · exact byteN_lt _ _
  · decide

theorem index_str (s : ByteArray) (j : Nat) (hj : j < s.size) (w : World) : (Instr.index 9 (.string s) (.int .i64 (j : Nat))).run Tryz.prog w = .ok (.int .u8 (byteN s j : Nat)) w := by
  rw [run_index_string (h := Tryz.underlying9)]
  have h1 : 0 ≤ (j : Int) ∧ (j : Int) < s.size := by omega
  rw [dif_pos h1]
  unfold byteN
  rw [dif_pos hj]
  rfl

attribute [local irreducible] lb byteN byteR orF orD

set_option maxRecDepth 100000 in
set_option maxHeartbeats 4000000 in
/-- word.From. -/
theorem From_any (s : ByteArray) (hs : s.size ≤ maxLen) (w : World) :
    Calls Tryz.prog 28 #[.string s] w fun e w' => e = .returned (W4 (orF (byteR s) (min s.size 32))) ∧ Below w.heap.size w w' := by
  have hm : maxLen = 9223372036854775807 := rfl
  go_enter Tryz.func28, Tryz.ntmps28
  go_wp2
  go_step3
  go_wp2
  go_step3
  go_wp2
  go_loopw [4, 5] (fun q i wr => ∃ k m : Nat, k + m = s.size ∧ k ≤ 32 ∧ q = .int .i64 k ∧ i = .int .i64 ((m : Int) - 1) ∧ rowW 31 wr (w.heap.size + 1) (orF (byteR s) k) ∧ rowW 31 wr w.heap.size 0 ∧ Below w.heap.size w wr)
    (fun _ i _ => (intOf i + 1).toNat)
  case atStart =>
    refine ⟨0, s.size, by omega, by omega, rfl, by go_num, ?_, (rowW.new0 (by simp)).alloc _, ?_⟩
    · rw [orF_zero]
      exact rowW.new0 (by simp)
    · skip
      repeat (with_reducible first | exact Below.refl _ _ | assumption | refine below_drewN ?_ _ | refine Below.drew ?_ | refine Below.setCell ?_ (by first | omega | (simp; done) | (simp; omega)) _ | refine Below.alloc ?_ (by first | omega | (simp; done) | (simp; omega)) _ | refine Below.trans ?_ (Below.mono (by assumption) (by first | omega | (simp; done) | (simp; omega))))
  case round =>
    obtain ⟨k, m, hkm, hk, rfl, rfl, hrow, hres, hbel⟩ := hrel
    have hsz := hrow.lt
    have hrf := hrow.cells.2.2.2.2
    cases m with
    | zero =>
      obtain rfl : k = s.size := by omega
      have hrow := show rowW 31 wr (w.heap.size + 1) (orF (byteR s) (min s.size 32)) by rw [Nat.min_eq_left hk]; exact hrow
      generalize hR : orF (byteR s) (min s.size 32) = R at hrow
      replace hR := Lib.hid hR
      obtain ⟨t0, t1, t2, t3, tf⟩ := hrow.cells
      obtain ⟨z0, z1, z2, z3, zf⟩ := hres.cells
      clear hrow hrf hres
      go_wp2
      rw [Exit.noGoto_ret]
      refine bodyPost_ret (by simp only [results, Tryz.results28]; go_simp; rfl) rfl ⟨by rw [hR.out], ?_⟩
      repeat (with_reducible first | exact Below.refl _ _ | assumption | refine below_drewN ?_ _ | refine Below.drew ?_ | refine Below.setCell ?_ (by first | omega | (simp; done) | (simp; omega)) _ | refine Below.alloc ?_ (by first | omega | (simp; done) | (simp; omega)) _ | refine Below.trans ?_ (Below.mono (by assumption) (by first | omega | (simp; done) | (simp; omega))))
    | succ m =>
      have e1 : ((m + 1 : Nat) : Int) - 1 = (m : Int) := by omega
      rw [e1]
      by_cases h32 : k = 32
      · subst h32
        have hrow := show rowW 31 wr (w.heap.size + 1) (orF (byteR s) (min s.size 32)) by rw [Nat.min_eq_right (by omega)]; exact hrow
        generalize hR : orF (byteR s) (min s.size 32) = R at hrow
        replace hR := Lib.hid hR
        obtain ⟨t0, t1, t2, t3, tf⟩ := hrow.cells
        obtain ⟨z0, z1, z2, z3, zf⟩ := hres.cells
        clear hrow hrf hres
        go_wp2
        rw [Exit.noGoto_ret]
        refine bodyPost_ret (by simp only [results, Tryz.results28]; go_simp; rfl) rfl ⟨by rw [hR.out], ?_⟩
        repeat (with_reducible first | exact Below.refl _ _ | assumption | refine below_drewN ?_ _ | refine Below.drew ?_ | refine Below.setCell ?_ (by first | omega | (simp; done) | (simp; omega)) _ | refine Below.alloc ?_ (by first | omega | (simp; done) | (simp; omega)) _ | refine Below.trans ?_ (Below.mono (by assumption) (by first | omega | (simp; done) | (simp; omega))))
      · have hm2 : m < s.size := by omega
        have hix := fun W => index_str s m hm2 W
        have hbr : byteR s k = byteN s m := by unfold byteR; rw [if_pos (by omega), show s.size - 1 - k = m by omega]
        have hblt := byteN_lt s m
        have hor := or_byte_bits (X := orF (byteR s) k) (k := k) hblt
        have co := hrow.cellAt (j := k / 8) (by omega)
        have hi1 : 0 ≤ (k : Int) / 8 := by omega
        have hi2 : (k : Int) / 8 < 4 := by omega
        have hi3 : ((k : Int) / 8).toNat = k / 8 := by omega
        have hi4 : 0 ≤ 8 * ((k : Int) % 8) := by omega
        have hi5 : 8 * ((k : Int) % 8) < 64 := by omega
        have hi6 : (8 * ((k : Int) % 8)).toNat = 8 * (k % 8) := by omega
        go_wp2
        first | refine wp_flow (fun k => ([1, 1, 1, 1, 1, 1, 1, 1, 1, 1, 1, 1, 1, 1, 2] : List Nat).getD k 1) Dr _ (Dr.next _ _) (by kernel_rfl) (by kernel_rfl) ?_ | refine wp_flow (fun k => ([1, 1, 1, 1, 1, 1, 1, 1, 1, 1, 1, 1, 1, 1, 2] : List Nat).getD k 1) Dr _ (Dr.one _) (by kernel_rfl) (by kernel_rfl) ?_
        iterate 14 ((refine flow_quiet rfl rfl (fun K hK => ?_); apply Exists.intro; apply And.intro; (focus (rintro w' ⟨nn, rfl⟩; go_simp; (try go_bits); exact ⟨rfl, Dr.of _ _⟩)); go_simp; (try go_bits); refine hK _ ?_; clear hK K))
        (refine flow_eff rfl rfl (fun K hK => ?_); apply Exists.intro; apply Exists.intro; apply And.intro; (focus (rintro w' ⟨nn, rfl⟩; go_simp; (try go_bits); refine ⟨rfl, ?_⟩; with_reducible first | exact Dr.store _ _ _ _ | exact Dr.store4 _ _ _ _ _ _ _ _ _ _)); go_simp; (try go_bits); refine hK _ _ ?_; clear hK K)
        refine flow_nil ?_
        rintro w' ⟨nq, rfl⟩
        go_wp2
        go_roundw
        case rel =>
          refine ⟨k + 1, m, by omega, by omega, by go_num, rfl, ?_, (hres.set (by omega)).drewN _, ?_⟩
          · rw [orF_succ, hbr]
            exact (or_byte_row hblt (by omega) hrow).drewN _
          repeat (with_reducible first | exact Below.refl _ _ | assumption | refine below_drewN ?_ _ | refine Below.drew ?_ | refine Below.setCell ?_ (by first | omega | (simp; done) | (simp; omega)) _ | refine Below.alloc ?_ (by first | omega | (simp; done) | (simp; omega)) _ | refine Below.trans ?_ (Below.mono (by assumption) (by first | omega | (simp; done) | (simp; omega))))
        case measure => simp [intOf]
end Go.Proofs.YtijidnhaijdfaaaGreatDoor
