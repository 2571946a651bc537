/-
  Slices of strings: keccak.Sum over one, and joined. Conditions: the three tables stand in their blocks; the text is not too long.
-/
import Derived.Test.YtijidnhaijdfaaaGreatDoorKShelf
import Derived.Test.YtijidnhaijdfaaaGreatDoorPR8
import Derived.Lib.Join
namespace Go.Proofs.YtijidnhaijdfaaaGreatDoor
open Go.RowKit
attribute [local go_sem] leftBy
set_option linter.unusedSimpArgs false
set_option linter.unusedVariables false

/-- Strings, one behind the other. -/
def catB (xs : List ByteArray) : ByteArray := ⟨(xs.map (·.data.toList)).flatten.toArray⟩
theorem catB_size (xs : List ByteArray) : (catB xs).size = (xs.map (·.data.toList)).flatten.length := by
  show (catB xs).data.size = _
  simp [catB]
theorem catB_append (xs ys : List ByteArray) : (catB (xs ++ ys)).size = (catB xs).size + (catB ys).size := by
  rw [catB_size, catB_size, catB_size, List.map_append, List.flatten_append, List.length_append]
theorem catB_take (xs : List ByteArray) (j : Nat) : (catB (xs.take j)).size ≤ (catB xs).size := by
  have := catB_append (xs.take j) (xs.drop j)
  rw [List.take_append_drop] at this
  omega
theorem catB_nil : catB [] = ⟨#[]⟩ := rfl
theorem ba_ext {a b : ByteArray} (h : a.data.toList = b.data.toList) : a = b := by
  cases a
  cases b
  simp at h
  rw [h]
theorem catB_one (s : ByteArray) : catB [s] = s := ba_ext (by simp [catB])
theorem catB_two (a b : ByteArray) : catB [a, b] = a ++ b := ba_ext (by simp [catB, ByteArray.data_append])
theorem catB_snoc (xs : List ByteArray) (a : ByteArray) : catB (xs ++ [a]) = catB xs ++ a := ba_ext (by simp [catB, ByteArray.data_append])
theorem join_plain (xs : List (List UInt8)) : Lib.join xs [] = xs.flatten := by
  cases xs with
  | nil => rfl
  | cons x r =>
    rw [Lib.join_cons, Lib.joinTail]
    simp

/-- v is a slice of the strings xs. -/
def strV (W : World) (v : Value) (xs : List ByteArray) : Prop :=
  (∃ a c, v = .slice a 0 c ∧ xs = []) ∨ ∃ b o c, v = .slice (some ⟨b, o, none⟩) xs.length c ∧ xs.length ≤ c ∧ 0 < xs.length ∧ b < W.heap.size ∧ ∀ j x, xs[j]? = some x → W.cell? ⟨b, o + j, none⟩ = some (.string x)
theorem strV.below {W W' : World} {v : Value} {xs : List ByteArray} (h : strV W v xs) (hb : Below W.heap.size W W') : strV W' v xs := by
  rcases h with h | ⟨b, o, c, hv, hc, h0, hlt, hcell⟩
  · exact .inl h
  · exact .inr ⟨b, o, c, hv, hc, h0, Nat.lt_of_lt_of_le hlt hb.size, fun j x hx => (hb.cell (p := ⟨b, o + j, none⟩) hlt).trans (hcell j x hx)⟩

/-- keccak.Sum over a slice of strings. -/
theorem Sum_strs (v : Value) (xs : List ByteArray) (w : World) (hv : strV w v xs) (hN : xs.length ≤ 140737488355328) (hs : (catB xs).size ≤ 200000) (hw : 3 ≤ w.heap.size) (hT : KT w) :
    Calls Tryz.prog 7 #[v] w fun e w' => e = .returned (.string (digS (catB xs))) ∧ Below w.heap.size w w' := by
  refine Sum_any v (catB xs) hs w hw hT ?_
  rcases hv with ⟨a, c, rfl, rfl⟩ | ⟨b, o, c, rfl, hc, h0, hlt, hcell⟩
  · exact (strings_Join_none a c ⟨#[]⟩ w).mono fun e w' ⟨h1, h2⟩ => ⟨h1, h2 ▸ Below.refl _ _⟩
  · have := strings_Join b o c xs ⟨#[]⟩ w hcell hlt hN hc (by
      rw [join_plain, ← catB_size]
      omega)
    rw [join_plain] at this
    exact this
end Go.Proofs.YtijidnhaijdfaaaGreatDoor
