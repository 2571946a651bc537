/-
  The contracts of code.At and of the document's At. Conditions: none.
-/
import Derived.Test.YtjdhkdmcglnihaaCStr
import Derived.Test.YtjdhkdmcglnihaaCRepeat
import Derived.Test.YtjdhkdmcglnihaaFlow4
namespace Go.Proofs.Ytjdhkdmcglnihaa
open Go.RowKit
attribute [local go_sem] leftBy
set_option linter.unusedSimpArgs false
set_option linter.unusedVariables false


/-- Bytes 0. -/
def zeros (k : Nat) : ByteArray := ⟨Array.replicate k 0⟩
theorem zeros_size (k : Nat) : (zeros k).size = k := by simp [zeros, ByteArray.size]
theorem repeat_zeros (k : Nat) : (⟨(Lib.repeatL (ByteArray.mk #[0]).data.toList k).toArray⟩ : ByteArray) = zeros k := by
  unfold zeros
  congr 1
  have h : ∀ k : Nat, Lib.repeatL [(0 : UInt8)] k = List.replicate k 0 := fun k => by
    induction k with
    | zero => rfl
    | succ k ih => first | (simp [Lib.repeatL, ih, List.replicate_succ]; done) | (simp [Lib.repeatL, ih, List.replicate_succ']; done)
  show (Lib.repeatL [(0 : UInt8)] k).toArray = _
  rw [h]
  simp
theorem zeros_byte (k j : Nat) : byteD (zeros k) j = 0 := by
  unfold byteD zeros
  simp [List.getD_eq_getElem?_getD, List.getElem?_replicate]
  split <;> rfl

/-- How many bytes of data an operation has. -/
def nD (op : Nat) : Nat := if 96 ≤ op ∧ op ≤ 127 then op - 95 else 0
theorem nD_le (op : Nat) : nD op ≤ 32 := by unfold nD; split <;> omega
/-- The data. -/
def dataS (s : ByteArray) (k n : Nat) : ByteArray := strN n fun j => if k + 1 + j < s.size then byteD s (k + 1 + j) else 0
theorem dataS_size (s : ByteArray) (k n : Nat) : (dataS s k n).size = n := strN_size _ _
theorem dataS_zero (s : ByteArray) (k : Nat) : dataS s k 0 = ⟨#[]⟩ := by
  have h := dataS_size s k 0
  generalize dataS s k 0 = x at h
  cases x with
  | mk d =>
    have : d.size = 0 := h
    rw [Array.size_eq_zero_iff] at this
    rw [this]

theorem index_d (s : ByteArray) (j : Nat) (hj : j < s.size) (w : World) : (Instr.index 9 (.string s) (.int .i64 (j : Nat))).run Try.prog w = .ok (.int .u8 (byteD s j : Nat)) w := by
  rw [run_index_string (h := Try.underlying9)]
  have h1 : 0 ≤ (j : Int) ∧ (j : Int) < s.size := by omega
  rw [dif_pos h1]
  have hd : j < s.data.toList.length := by simpa using hj
  unfold byteD
  rw [List.getD_eq_getElem?_getD, List.getElem?_eq_getElem hd]
  rfl

theorem data_all {s : ByteArray} {k n : Nat} (h : k + 1 + n ≤ s.size) : s.extract (k + 1) (k + 1 + n) ++ zeros 0 = dataS s k n := by
  have hz : (s.extract (k + 1) (k + 1 + n)).size = n := by rw [ByteArray.size_extract]; omega
  refine bytes_ext (by rw [ByteArray.size_append, hz, zeros_size, dataS_size]; omega) fun j hj => ?_
  rw [ByteArray.size_append, hz, zeros_size] at hj
  unfold dataS
  rw [byteD_append, hz, if_pos (by omega), byteD_extract _ _ _ _ (by omega) (by omega), strN_byte _ _ (fun i _ => by split <;> first | exact byteD_lt _ _ | omega) _ (by omega), if_pos (by omega)]

theorem data_cut {s : ByteArray} {k n : Nat} (hk : k < s.size) (h : s.size ≤ k + 1 + n) : s.extract (k + 1) s.size ++ zeros (n - (s.size - (k + 1))) = dataS s k n := by
  have hz : (s.extract (k + 1) s.size).size = s.size - (k + 1) := by rw [ByteArray.size_extract]; omega
  refine bytes_ext (by rw [ByteArray.size_append, hz, zeros_size, dataS_size]; omega) fun j hj => ?_
  rw [ByteArray.size_append, hz, zeros_size] at hj
  unfold dataS
  rw [byteD_append, hz, strN_byte _ _ (fun i _ => by split <;> first | exact byteD_lt _ _ | omega) _ (by omega)]
  by_cases hc : j < s.size - (k + 1)
  · rw [if_pos hc, if_pos (by omega), byteD_extract _ _ _ _ (by omega) (by omega)]
  · rw [if_neg hc, if_neg (by omega), zeros_byte]

theorem data_min {s : ByteArray} {k n : Nat} (hk : k < s.size) : s.extract (k + 1) (min s.size (k + 1 + n)) ++ zeros (n - (min s.size (k + 1 + n) - (k + 1))) = dataS s k n := by
  by_cases h : k + 1 + n ≤ s.size
  · rw [Nat.min_eq_right h, show n - (k + 1 + n - (k + 1)) = 0 by omega]
    exact data_all h
  · rw [Nat.min_eq_left (by omega)]
    exact data_cut hk (by omega)

theorem Repeat_zero (c : Nat) (hc : c ≤ 32) (w : World) : Calls Try.prog 16 #[.string ⟨#[0]⟩, .int .i64 c] w fun e w' => e = .returned (.string (zeros c)) ∧ Below w.heap.size w w' := by
  have h := strings_Repeat (⟨#[0]⟩ : ByteArray) c w (by omega) (by show 1 * c ≤ _; omega)
  rw [repeat_zeros] at h
  exact h

set_option maxHeartbeats 4000000 in
theorem At_neg (s : ByteArray) (k : Int) (h : k < 0) (w : World) :
    Calls Try.prog 9 #[.string s, .int .i64 k] w fun e w' => e = .returned (.tuple #[.int .u8 0, .string ⟨#[]⟩, .int .i64 0]) ∧ Below w.heap.size w w' := by
  go_enter Try.func9, Try.ntmps9
  go_wp2
  refine bodyPost_ret (by simp only [results, Try.results9]; go_simp; try rfl) rfl ⟨rfl, ?_⟩
  repeat (with_reducible first | exact Below.refl _ _ | assumption | refine below_drewN ?_ _ | refine Below.drew ?_ | refine Below.setCell ?_ (by first | omega | (simp; done) | (simp; omega)) _ | refine Below.alloc ?_ (by first | omega | (simp; done) | (simp; omega)) _ | refine Below.trans ?_ (Below.mono (by assumption) (by first | omega | (simp; done) | (simp; omega))))

set_option maxHeartbeats 4000000 in
theorem At_far (s : ByteArray) (k : Nat) (h : s.size ≤ k) (hk : k ≤ 4611686018427387904) (w : World) :
    Calls Try.prog 9 #[.string s, .int .i64 k] w fun e w' => e = .returned (.tuple #[.int .u8 0, .string ⟨#[]⟩, .int .i64 ((k : Int) + 1)]) ∧ Below w.heap.size w w' := by
  have hi : (s.size : Int) ≤ (k : Int) := by omega
  go_enter Try.func9, Try.ntmps9
  go_wp2
  refine bodyPost_ret (by simp only [results, Try.results9]; go_simp; try rfl) rfl ⟨rfl, ?_⟩
  repeat (with_reducible first | exact Below.refl _ _ | assumption | refine below_drewN ?_ _ | refine Below.drew ?_ | refine Below.setCell ?_ (by first | omega | (simp; done) | (simp; omega)) _ | refine Below.alloc ?_ (by first | omega | (simp; done) | (simp; omega)) _ | refine Below.trans ?_ (Below.mono (by assumption) (by first | omega | (simp; done) | (simp; omega))))

set_option maxHeartbeats 4000000 in
theorem At_one (s : ByteArray) (k : Nat) (h : k < s.size) (hk : k ≤ 4611686018427387904) (hb : ¬ (96 ≤ byteD s k ∧ byteD s k ≤ 127)) (w : World) :
    Calls Try.prog 9 #[.string s, .int .i64 k] w fun e w' => e = .returned (.tuple #[.int .u8 (byteD s k : Nat), .string ⟨#[]⟩, .int .i64 ((k : Int) + 1)]) ∧ Below w.heap.size w w' := by
  have hix := fun W => index_d s k h W
  generalize byteD s k = b at *
  have hi : (k : Int) < (s.size : Int) := by omega
  by_cases h1 : b < 96
  · have h1i : (b : Int) < 96 := by omega
    go_enter Try.func9, Try.ntmps9
    go_wp2
    refine bodyPost_ret (by simp only [results, Try.results9]; go_simp; try rfl) rfl ⟨rfl, ?_⟩
    repeat (with_reducible first | exact Below.refl _ _ | assumption | refine below_drewN ?_ _ | refine Below.drew ?_ | refine Below.setCell ?_ (by first | omega | (simp; done) | (simp; omega)) _ | refine Below.alloc ?_ (by first | omega | (simp; done) | (simp; omega)) _ | refine Below.trans ?_ (Below.mono (by assumption) (by first | omega | (simp; done) | (simp; omega))))
  · have h1i : ¬ (b : Int) < 96 := by omega
    have h2i : (127 : Int) < (b : Int) := by omega
    go_enter Try.func9, Try.ntmps9
    go_wp2
    refine bodyPost_ret (by simp only [results, Try.results9]; go_simp; try rfl) rfl ⟨rfl, ?_⟩
    repeat (with_reducible first | exact Below.refl _ _ | assumption | refine below_drewN ?_ _ | refine Below.drew ?_ | refine Below.setCell ?_ (by first | omega | (simp; done) | (simp; omega)) _ | refine Below.alloc ?_ (by first | omega | (simp; done) | (simp; omega)) _ | refine Below.trans ?_ (Below.mono (by assumption) (by first | omega | (simp; done) | (simp; omega))))

set_option maxHeartbeats 4000000 in
theorem At_push (s : ByteArray) (k : Nat) (h : k < s.size) (hk : k ≤ 4611686018427387904) (hm : s.size ≤ maxLen) (hb : 96 ≤ byteD s k ∧ byteD s k ≤ 127) (w : World) :
    Calls Try.prog 9 #[.string s, .int .i64 k] w fun e w' => e = .returned (.tuple #[.int .u8 (byteD s k : Nat), .string (dataS s k (byteD s k - 95)), .int .i64 ((k + 1 + (byteD s k - 95) : Nat) : Int)]) ∧ Below w.heap.size w w' := by
  have hix := fun W => index_d s k h W
  generalize byteD s k = b at *
  obtain ⟨hb1, hb2⟩ := hb
  have hi : (k : Int) < (s.size : Int) := by omega
  have h1i : ¬ (b : Int) < 96 := by omega
  have h2i : ¬ (127 : Int) < (b : Int) := by omega
  obtain ⟨n, rfl⟩ : ∃ n, b = n + 95 := ⟨b - 95, by omega⟩
  rw [show n + 95 - 95 = n by omega]
  have hmax : maxLen = 9223372036854775807 := rfl
  have en : ((n + 95 : Nat) : Int) - 95 = (n : Int) := by omega
  have hq : min s.size (k + 1 + n) ≤ s.size ∧ k + 1 ≤ min s.size (k + 1 + n) ∧ min s.size (k + 1 + n) ≤ k + 1 + n := by omega
  have hmin : min (s.size : Int) ((k : Int) + 1 + (n : Int)) = ((min s.size (k + 1 + n) : Nat) : Int) := by omega
  rw [← data_min h]
  generalize min s.size (k + 1 + n) = q at *
  obtain ⟨hq1, hq2, hq3⟩ := hq
  have c1 := fun W => Repeat_zero (n - (q - (k + 1))) (by omega) W
  have hz : (s.extract (k + 1) q).size = q - (k + 1) := by rw [ByteArray.size_extract]; omega
  have hr : (n : Int) - ((s.extract (k + 1) q).size : Int) = ((n - (q - (k + 1)) : Nat) : Int) := by omega
  have hl : (s.extract (k + 1) q).size + (zeros (n - (q - (k + 1)))).size ≤ 1000 := by rw [zeros_size]; omega
  have ek : ((k + 1 + n : Nat) : Int) = (k : Int) + 1 + (n : Int) := by omega
  rw [ek]
  generalize zeros (n - (q - (k + 1))) = Z at *
  generalize n - (q - (k + 1)) = r at *
  generalize hA : s.extract (k + 1) q = A at *
  clear hz
  have hl2 : ¬ 9223372036854775807 < A.size + Z.size := by omega
  have i1 : (k : Int) + 1 ≤ (q : Int) := by omega
  have i2 : (q : Int) ≤ (s.size : Int) := by omega
  clear ek hb1 hb2
  go_enter Try.func9, Try.ntmps9
  go_wp2_with (go_at_call 16; with_reducible refine (c1 _).mono ?_; rintro e wa ⟨rfl, hb_wa⟩; have hc_wa := (bcell hb_wa).1; have hf_wa := (bcell hb_wa).2; have hz_wa : _ ≤ wa.heap.size := hb_wa.size; (try simp only [World.size_alloc, World.heap_drewN, World.size_setCell, heap_drew] at hc_wa hf_wa hz_wa))
  refine bodyPost_ret (by simp only [results, Try.results9]; go_simp; try rfl) rfl ⟨rfl, ?_⟩
  repeat (with_reducible first | exact Below.refl _ _ | assumption | refine below_drewN ?_ _ | refine Below.drew ?_ | refine Below.setCell ?_ (by first | omega | (simp; done) | (simp; omega)) _ | refine Below.alloc ?_ (by first | omega | (simp; done) | (simp; omega)) _ | refine Below.trans ?_ (Below.mono (by assumption) (by first | omega | (simp; done) | (simp; omega))))

/-- code.At, at a place of the code. -/
theorem At_in (s : ByteArray) (k : Nat) (h : k < s.size) (hk : k ≤ 4611686018427387904) (hm : s.size ≤ maxLen) (w : World) :
    Calls Try.prog 9 #[.string s, .int .i64 k] w fun e w' => e = .returned (.tuple #[.int .u8 (byteD s k : Nat), .string (dataS s k (nD (byteD s k))), .int .i64 ((k + 1 + nD (byteD s k) : Nat) : Int)]) ∧ Below w.heap.size w w' := by
  by_cases hb : 96 ≤ byteD s k ∧ byteD s k ≤ 127
  · rw [show nD (byteD s k) = byteD s k - 95 from if_pos hb]
    exact At_push s k h hk hm hb w
  · rw [show nD (byteD s k) = 0 from if_neg hb, dataS_zero]
    exact At_one s k h hk hb w
end Go.Proofs.Ytjdhkdmcglnihaa
