/-
  Texts of one proof, one behind the other. Conditions: each text's own line says them.
-/
import Derived.Shelf.Strings.Builder1
import Derived.Shelf.Strings.Builder2
import Derived.Shelf.Strings.OnBuilder
import Derived.Test.YtcdjdnbdblpofaaDoorProg
import Derived.Test.YtcdjdnbdblpofaaDoorPL8
import Derived.Lib.Join

/- The contract of strings.Join at this program, laid by the kit's tool out of the compiled shelf. Conditions: none. -/
namespace Go.Proofs.YtcdjdnbdblpofaaDoor
open Go.Shelf Go.RowKit Go.Lib
def lays156_ren : Go.Shelf.Ren := ⟨fun | 156 => 71 | 165 => 79 | 166 => 80 | 169 => 81 | 240 => 87 | 241 => 88 | 276 => 91 | 277 => 92 | n => n, fun | 31 => 41 | 9 => 9 | 3 => 3 | 4 => 4 | 0 => 0 | 20 => 20 | 72 => 119 | 76 => 123 | 70 => 117 | 37 => 110 | 75 => 122 | 127 => 135 | 164 => 141 | 5 => 5 | 80 => 125 | n => n, fun | n => n⟩
theorem lays156 : Go.Proofs.Lays.n156 Tryd.prog lays156_ren := {
  mixed := by kernel_rfl
  f156 := Tryd.func71.trans (congrArg some (by kernel_rfl))
  f165 := Tryd.func79.trans (congrArg some (by kernel_rfl))
  f166 := Tryd.func80.trans (congrArg some (by kernel_rfl))
  f169 := Tryd.func81.trans (congrArg some (by kernel_rfl))
  f240 := Tryd.func87.trans (congrArg some (by kernel_rfl))
  f241 := Tryd.func88.trans (congrArg some (by kernel_rfl))
  f276 := Tryd.func91.trans (congrArg some (by kernel_rfl))
  f277 := Tryd.func92.trans (congrArg some (by kernel_rfl))
  t0 := Tryd.underlying0
  a0 := Tryd.isAgg0
  z0 := Tryd.sizeOf0
  v0 := Tryd.zeroValue0
  t3 := Tryd.underlying3
  a3 := Tryd.isAgg3
  z3 := Tryd.sizeOf3
  v3 := Tryd.zeroValue3
  t4 := Tryd.underlying4
  a4 := Tryd.isAgg4
  z4 := Tryd.sizeOf4
  v4 := Tryd.zeroValue4
  t9 := Tryd.underlying9
  a9 := Tryd.isAgg9
  z9 := Tryd.sizeOf9
  v9 := Tryd.zeroValue9
  t20 := Tryd.underlying20
  a20 := Tryd.isAgg20
  z20 := Tryd.sizeOf20
  v20 := Tryd.zeroValue20
  t31 := Tryd.underlying41
  a31 := Tryd.isAgg41
  z31 := Tryd.sizeOf41
  v31 := Tryd.zeroValue41
  t37 := Tryd.underlying110
  a37 := Tryd.isAgg110
  z37 := Tryd.sizeOf110
  v37 := Tryd.zeroValue110
  t70 := Tryd.underlying117
  a70 := Tryd.isAgg117
  z70 := Tryd.sizeOf117
  v70 := Tryd.zeroValue117
  t72 := Tryd.underlying119
  a72 := Tryd.isAgg119
  z72 := Tryd.sizeOf119
  v72 := Tryd.zeroValue119
  t75 := Tryd.underlying122
  a75 := Tryd.isAgg122
  z75 := Tryd.sizeOf122
  v75 := Tryd.zeroValue122
  t76 := Tryd.underlying123
  a76 := Tryd.isAgg123
  z76 := Tryd.sizeOf123
  v76 := Tryd.zeroValue123
  t127 := Tryd.underlying135
  a127 := Tryd.isAgg135
  z127 := Tryd.sizeOf135
  v127 := Tryd.zeroValue135
  t164 := Tryd.underlying141
  a164 := Tryd.isAgg141
  z164 := Tryd.sizeOf141
  v164 := Tryd.zeroValue141 }
theorem Builder_Extra_156 : Builder.Extra Tryd.prog lays156_ren := {
  sizeBuilder := by kernel_rfl
  liesBuilder := by kernel_rfl
  t5 := Tryd.underlying5
  a5 := Tryd.isAgg5
  z5 := Tryd.sizeOf5
  v5 := Tryd.zeroValue5
  infoByte := by kernel_rfl
  cellsByte := by kernel_rfl
  sizeByte := by kernel_rfl
  neB5 := by decide }
theorem strings_Join_none (a : Option Addr) (c : Nat) (sep : ByteArray) (w : World) :
    Calls Tryd.prog 71 #[.slice a 0 c, .string sep] w fun e w' => e = .returned (.string ⟨#[]⟩) ∧ w' = w := Any.strings_Join_none lays156 Builder_Extra_156 a c sep w
theorem strings_Join (bk o c : Nat) (xs : List ByteArray) (sep : ByteArray) (w : World) (hcells : ∀ (j : Nat) x, xs[j]? = some x → w.cell? ⟨bk, o + j, none⟩ = some (.string x)) (hbk : bk < w.heap.size) (hN : xs.length ≤ 140737488355328) (hcap : xs.length ≤ c) (hlen : (Lib.join (xs.map (·.data.toList)) sep.data.toList).length ≤ 140737488355328) :
    Calls Tryd.prog 71 #[.slice (some ⟨bk, o, none⟩) xs.length c, .string sep] w fun e w' => e = .returned (.string ⟨(Lib.join (xs.map (·.data.toList)) sep.data.toList).toArray⟩) ∧ Below w.heap.size w w' := Any.strings_Join lays156 Builder_Extra_156 bk o c xs sep w hcells hbk hN hcap hlen
end Go.Proofs.YtcdjdnbdblpofaaDoor

/- Slices of strings: keccak.Sum over one, and joined. Conditions: the three tables stand in their blocks; the text is not too long. -/
namespace Go.Proofs.YtcdjdnbdblpofaaDoor
open Go.RowKit
attribute [local go_sem] leftBy
set_option linter.unusedSimpArgs false
set_option linter.unusedVariables false

/-- Strings, one behind the other. -/
def catB (xs : List ByteArray) : ByteArray := ⟨(xs.map (·.data.toList)).flatten.toArray⟩
theorem catB_size (xs : List ByteArray) : (catB xs).size = (xs.map (·.data.toList)).flatten.length := by
  show (catB xs).data.size = _
  simp [catB]
theorem catB_append (xs ys : List ByteArray) : (catB (xs ++ ys)).size = (catB xs).size + (catB ys).size := by
  rw [catB_size, catB_size, catB_size, List.map_append, List.flatten_append, List.length_append]
theorem catB_take (xs : List ByteArray) (j : Nat) : (catB (xs.take j)).size ≤ (catB xs).size := by
  have := catB_append (xs.take j) (xs.drop j)
  rw [List.take_append_drop] at this
  omega
theorem catB_nil : catB [] = ⟨#[]⟩ := rfl
theorem ba_ext {a b : ByteArray} (h : a.data.toList = b.data.toList) : a = b := by
  cases a
  cases b
  simp at h
  rw [h]
theorem catB_one (s : ByteArray) : catB [s] = s := ba_ext (by simp [catB])
theorem catB_two (a b : ByteArray) : catB [a, b] = a ++ b := ba_ext (by simp [catB, ByteArray.data_append])
theorem catB_snoc (xs : List ByteArray) (a : ByteArray) : catB (xs ++ [a]) = catB xs ++ a := ba_ext (by simp [catB, ByteArray.data_append])
theorem join_plain (xs : List (List UInt8)) : Lib.join xs [] = xs.flatten := by
  cases xs with
  | nil => rfl
  | cons x r =>
    rw [Lib.join_cons, Lib.joinTail]
    simp

/-- v is a slice of the strings xs. -/
def strV (W : World) (v : Value) (xs : List ByteArray) : Prop :=
  (∃ a c, v = .slice a 0 c ∧ xs = []) ∨ ∃ b o c, v = .slice (some ⟨b, o, none⟩) xs.length c ∧ xs.length ≤ c ∧ 0 < xs.length ∧ b < W.heap.size ∧ ∀ j x, xs[j]? = some x → W.cell? ⟨b, o + j, none⟩ = some (.string x)
theorem strV.below {W W' : World} {v : Value} {xs : List ByteArray} (h : strV W v xs) (hb : Below W.heap.size W W') : strV W' v xs := by
  rcases h with h | ⟨b, o, c, hv, hc, h0, hlt, hcell⟩
  · exact .inl h
  · exact .inr ⟨b, o, c, hv, hc, h0, Nat.lt_of_lt_of_le hlt hb.size, fun j x hx => (hb.cell (p := ⟨b, o + j, none⟩) hlt).trans (hcell j x hx)⟩

/-- keccak.Sum over a slice of strings. -/
theorem Sum_strs (v : Value) (xs : List ByteArray) (w : World) (hv : strV w v xs) (hN : xs.length ≤ 140737488355328) (hs : (catB xs).size ≤ 200000) (hw : 3 ≤ w.heap.size) (hT : KT w) :
    Calls Tryd.prog 57 #[v] w fun e w' => e = .returned (.string (digS (catB xs))) ∧ Below w.heap.size w w' := by
  refine Sum_any v (catB xs) hs w hw hT ?_
  rcases hv with ⟨a, c, rfl, rfl⟩ | ⟨b, o, c, rfl, hc, h0, hlt, hcell⟩
  · exact (strings_Join_none a c ⟨#[]⟩ w).mono fun e w' ⟨h1, h2⟩ => ⟨h1, h2 ▸ Below.refl _ _⟩
  · have := strings_Join b o c xs ⟨#[]⟩ w hcell hlt hN hc (by
      rw [join_plain, ← catB_size]
      omega)
    rw [join_plain] at this
    exact this
end Go.Proofs.YtcdjdnbdblpofaaDoor
