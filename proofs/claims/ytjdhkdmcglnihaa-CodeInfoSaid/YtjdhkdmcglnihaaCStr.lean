/-
  Strings by the byte at each place: plain facts; bytes as a string. Conditions: none.
-/
import Derived.Test.YtjdhkdmcglnihaaKBuf
import Derived.Laws.BytesString
import Derived.WalkSpells
namespace Go.Proofs.Ytjdhkdmcglnihaa
open Go.RowKit
set_option linter.unusedSimpArgs false
set_option linter.unusedVariables false

/-- n bytes as a string. -/
def strN (n : Nat) (f : Nat → Nat) : ByteArray := ((List.range n).map fun k => ((f k : Nat) : Int)).foldl (fun r x => r.push (UInt8.ofNat x.toNat)) ByteArray.empty

theorem foldl_push (l : List Int) : ∀ r : ByteArray, (l.foldl (fun r x => r.push (UInt8.ofNat x.toNat)) r).data.toList = r.data.toList ++ l.map (fun x => UInt8.ofNat x.toNat) := by
  induction l with
  | nil => intro r; simp
  | cons x l ih =>
    intro r
    rw [List.foldl_cons, ih]
    simp [ByteArray.push]
theorem strN_list (n : Nat) (f : Nat → Nat) : (strN n f).data.toList = (List.range n).map fun k => UInt8.ofNat (f k) := by
  unfold strN
  rw [foldl_push, List.map_map]
  simp
theorem list_bytes (s : ByteArray) : s.data.toList = (List.range s.size).map fun k => UInt8.ofNat (byteD s k) := by
  have hs : s.data.toList.length = s.size := by simp
  apply List.ext_getElem?
  intro k
  by_cases hk : k < s.size
  · simp only [List.getElem?_map, List.getElem?_range hk, Option.map_some]
    unfold byteD
    rw [List.getElem?_eq_getElem (by omega), List.getD_eq_getElem?_getD, List.getElem?_eq_getElem (by omega)]
    simp
  · rw [List.getElem?_eq_none (by omega), List.getElem?_eq_none (by simp; omega)]
theorem bytes_ext {s t : ByteArray} (hz : s.size = t.size) (h : ∀ k, k < s.size → byteD s k = byteD t k) : s = t := by
  have e : s.data.toList = t.data.toList := by
    rw [list_bytes s, list_bytes t, ← hz]
    refine List.map_congr_left fun k hk => ?_
    rw [h k (List.mem_range.1 hk)]
  cases s
  cases t
  simp at e
  rw [e]
theorem strN_size (n : Nat) (f : Nat → Nat) : (strN n f).size = n := by
  have h := congrArg List.length (strN_list n f)
  simp at h
  exact h
theorem strN_byte (n : Nat) (f : Nat → Nat) (hf : ∀ k, k < n → f k < 256) (k : Nat) (hk : k < n) : byteD (strN n f) k = f k := by
  unfold byteD
  rw [strN_list, List.getD_eq_getElem?_getD, List.getElem?_map, List.getElem?_range hk]
  simp
  exact hf k hk
theorem byteD_append (s t : ByteArray) (k : Nat) : byteD (s ++ t) k = if k < s.size then byteD s k else byteD t (k - s.size) := by
  have hs : s.data.toList.length = s.size := by simp
  unfold byteD
  rw [ByteArray.data_append, Array.toList_append, List.getD_eq_getElem?_getD, List.getElem?_append, hs]
  split
  · rw [List.getD_eq_getElem?_getD]
  · rw [List.getD_eq_getElem?_getD]
theorem byteD_extract (s : ByteArray) (a b k : Nat) (h : a + k < b) (hb : b ≤ s.size) : byteD (s.extract a b) k = byteD s (a + k) := by
  have hs : s.data.toList.length = s.size := by simp
  unfold byteD
  rw [ByteArray.data_extract, Array.toList_extract, List.getD_eq_getElem?_getD, List.getD_eq_getElem?_getD]
  congr 2
  simp only [List.extract_eq_take_drop, List.getElem?_take, List.getElem?_drop]
  rw [if_pos (by omega)]

/-- n bytes as a string. -/
theorem string_ofB {W : World} {g n cap : Nat} {f : Nat → Nat} (hc : ∀ j, j < n → W.cell? ⟨g, j, none⟩ = some (.int .u8 (f j : Nat))) : (convert 39 9 (.slice (some ⟨g, 0, none⟩) n cap)).run Try.prog W = .ok (.string (strN n f)) W := by
  rw [run_convert_bytes_string W 39 9 5 _ _ _ Try.underlying39 Try.underlying5 Try.underlying9]
  refine run_bytesToString W _ n cap ((List.range n).map fun k => ((f k : Nat) : Int)) ?_
  have hadd : ∀ q j : Nat, (⟨q, 0, none⟩ : Addr).add j = ⟨q, j, none⟩ := fun q j => by unfold Addr.add; split <;> simp_all
  have hl : (((List.range n).map fun k => ((f k : Nat) : Int)).map (Value.int .u8)).length = n := by simp
  have := run_loadCells_list (P := Try.prog) W ⟨g, 0, none⟩ (((List.range n).map fun k => ((f k : Nat) : Int)).map (Value.int .u8)) (fun j v hv => by
    have hj : j < n := by
      have := (List.getElem?_eq_some_iff.1 hv).1
      omega
    have h3 : (((List.range n).map fun k => ((f k : Nat) : Int)).map (Value.int .u8))[j]? = some (.int .u8 (f j : Nat)) := by simp [hj]
    rw [h3] at hv
    injection hv with hv
    subst hv
    rw [hadd]
    exact hc j hj)
  rw [hl] at this
  exact this

end Go.Proofs.Ytjdhkdmcglnihaa
