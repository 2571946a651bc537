/-
  How a script reads among the arguments. Conditions: none.
-/
import Derived.Test.YtcdjdnbdblpofaaDoorPL27
namespace Go.Proofs.YtcdjdnbdblpofaaDoor
open Go.ChangeShapes Go.WideShapes Go.ChangeAt Go.RowKit Go.Deep
set_option linter.unusedVariables false

/-- A call. -/
structure Opx where
  ki : Int
  a : ByteArray
  b : ByteArray
  ke : Nat
  va : Nat
  n : Int
def Opx.v (x : Opx) : Value := .agg #[.int .i64 x.ki, .string x.a, .string x.b, .int .u64 (lb x.ke 0 : Nat), .int .u64 (lb x.ke 1 : Nat), .int .u64 (lb x.ke 2 : Nat), .int .u64 (lb x.ke 3 : Nat), .int .u64 (lb x.va 0 : Nat), .int .u64 (lb x.va 1 : Nat), .int .u64 (lb x.va 2 : Nat), .int .u64 (lb x.va 3 : Nat), .int .i64 x.n]
structure Opx.ok (x : Opx) : Prop where
  ki : -9223372036854775808 ≤ x.ki ∧ x.ki ≤ 9223372036854775807
  a : okT x.a
  b : okT x.b
  ke : x.ke < Q256
  va : x.va < Q256
  n : -9223372036854775808 ≤ x.n ∧ x.n ≤ 9223372036854775807
instance : Inhabited Opx := ⟨⟨0, ⟨#[]⟩, ⟨#[]⟩, 0, 0, 0⟩⟩
/-- v is a slice of the calls l. -/
def opL (W : World) (v : Value) (l : List Opx) : Prop :=
  ∃ a c, v = .slice a l.length c ∧ l.length ≤ c ∧ c ≤ maxLen ∧ ∀ i x, l[i]? = some x → ∃ b o, a = some ⟨b, o, none⟩ ∧ ∀ j u, x.v.cells[j]? = some u → W.cell? ⟨b, o + i * 12 + j, none⟩ = some u
theorem opL.below {W W' : World} {v : Value} {L : List Opx} (h : opL W v L) (hb : Below W.heap.size W W') : opL W' v L := by
  obtain ⟨a, c, hv, h1, h2, h3⟩ := h
  refine ⟨a, c, hv, h1, h2, fun i x hx => ?_⟩
  obtain ⟨b, o, ha, hc⟩ := h3 i x hx
  have hl := cell_lt (hc 0 _ rfl)
  exact ⟨b, o, ha, fun j u hu => (hb.cell (p := ⟨b, o + i * 12 + j, none⟩) hl).trans (hc j u hu)⟩
theorem cellsOp : Tryd.prog.cellsOf 55 = 12 := by kernel_rfl
theorem cellsInt : Tryd.prog.cellsOf 3 = 1 := by kernel_rfl
theorem i64_of_wf {x : Int} (w : (Lit.int .i64 x).wf = true) : -9223372036854775808 ≤ x ∧ x ≤ 9223372036854775807 := by
  have hmin : IntKind.i64.min = -9223372036854775808 := by decide +kernel
  have hmax : IntKind.i64.max = 9223372036854775807 := by decide +kernel
  simpa only [Lit.wf, hmin, hmax, Bool.and_eq_true, decide_eq_true_eq] using w

section
variable {H : Type} {enc : TypeId × Value → H} {W : World} {sp : Nat → Bool} {held : Bool}

set_option maxRecDepth 10000 in
/-- A call. -/
theorem open_op {n : Nat} {cs : List Value} {x : DataW H × List MemPlace} (h : DataW.trod enc Tryd.prog W 0 sp held n 55 cs = some x) :
    ∃ K : Opx, cs = K.v.cells.toList ∧ K.ok := by
  obtain ⟨xs, m, _, _, hlen, hxl, hf⟩ := DataW.trod_struct Tryd.underlying55 h
  rw [cellsOp] at hlen
  obtain ⟨c0, c1, c2, c3, c4, c5, c6, c7, c8, c9, c10, c11, rfl⟩ := list12 cs hlen
  have hl6 : xs.length = 6 := hxl
  have hx : ∀ i, i < 6 → ∃ y, xs[i]? = some y := fun i hi => ⟨_, List.getElem?_eq_getElem (by omega)⟩
  have f0 : DataW.trod enc Tryd.prog W 0 sp held m 3 (([c0, c1, c2, c3, c4, c5, c6, c7, c8, c9, c10, c11].drop 0).take (Tryd.prog.cellsOf 3)) = xs[0]? := hf 0 _ rfl
  have f1 : DataW.trod enc Tryd.prog W 0 sp held m 9 (([c0, c1, c2, c3, c4, c5, c6, c7, c8, c9, c10, c11].drop 1).take (Tryd.prog.cellsOf 9)) = xs[1]? := hf 1 _ rfl
  have f2 : DataW.trod enc Tryd.prog W 0 sp held m 9 (([c0, c1, c2, c3, c4, c5, c6, c7, c8, c9, c10, c11].drop 2).take (Tryd.prog.cellsOf 9)) = xs[2]? := hf 2 _ rfl
  have f3 : DataW.trod enc Tryd.prog W 0 sp held m 25 (([c0, c1, c2, c3, c4, c5, c6, c7, c8, c9, c10, c11].drop 3).take (Tryd.prog.cellsOf 25)) = xs[3]? := hf 3 _ rfl
  have f4 : DataW.trod enc Tryd.prog W 0 sp held m 25 (([c0, c1, c2, c3, c4, c5, c6, c7, c8, c9, c10, c11].drop 7).take (Tryd.prog.cellsOf 25)) = xs[4]? := hf 4 _ rfl
  have f5 : DataW.trod enc Tryd.prog W 0 sp held m 3 (([c0, c1, c2, c3, c4, c5, c6, c7, c8, c9, c10, c11].drop 11).take (Tryd.prog.cellsOf 3)) = xs[5]? := hf 5 _ rfl
  rw [cellsInt] at f0 f5
  rw [cellsStr] at f1 f2
  rw [cellsWord] at f3 f4
  obtain ⟨y0, l0⟩ := hx 0 (by omega)
  obtain ⟨y1, l1⟩ := hx 1 (by omega)
  obtain ⟨y2, l2⟩ := hx 2 (by omega)
  obtain ⟨y3, l3⟩ := hx 3 (by omega)
  obtain ⟨y4, l4⟩ := hx 4 (by omega)
  obtain ⟨y5, l5⟩ := hx 5 (by omega)
  obtain ⟨ki, e0, _, w0⟩ := DataW.trod_int Tryd.underlying3 (f0.trans l0)
  obtain ⟨a, e1, _, w1⟩ := DataW.trod_string Tryd.underlying9 (f1.trans l1)
  obtain ⟨b, e2, _, w2⟩ := DataW.trod_string Tryd.underlying9 (f2.trans l2)
  obtain ⟨ke, hke, d0, d1, d2, d3⟩ := open_w (f3.trans l3)
  obtain ⟨va, hva, d4, d5, d6, d7⟩ := open_w (f4.trans l4)
  obtain ⟨n', e5, _, w5⟩ := DataW.trod_int Tryd.underlying3 (f5.trans l5)
  simp at e0 e1 e2 e5
  subst e0 e1 e2 e5 d0 d1 d2 d3 d4 d5 d6 d7
  exact ⟨⟨ki, a, b, ke, va, n'⟩, rfl, ⟨i64_of_wf w0, w1, w2, hke, hva, i64_of_wf w5⟩⟩

set_option maxRecDepth 10000 in
/-- A script. -/
theorem open_ops {base : Nat} {v : Value} {d : DataW H} {p : List MemPlace} (hv : Value.okWide Tryd.prog W .any base 49 v) (h : DataW.Trod enc Tryd.prog W 0 sp held 49 v d p) :
    ∃ (a : Option Addr) (c : Nat) (L : List Opx), v = .slice a L.length c ∧ opL W (.slice a L.length c) L ∧ ∀ K ∈ L, K.ok := by
  obtain ⟨a0, len0, cap0, rfl⟩ := okWide_slice Tryd.underlying49 hv
  obtain ⟨fuel, hf⟩ := h
  rcases open_slice Tryd.underlying49 hf with ⟨hcs, _⟩ | ⟨a, len, cap, m, n', D, Pl, hcs, hb, hl, hm, hmm, hx, hi⟩
  · replace hcs : [Value.slice a0 len0 cap0] = [Value.slice none 0 0] := hcs
    injection hcs with hcs _
    exact ⟨none, 0, [], hcs, ⟨none, 0, rfl, Nat.le_refl _, Nat.zero_le _, fun i K hK => by cases hK⟩, fun K hK => by cases hK⟩
  · replace hcs : [Value.slice a0 len0 cap0] = [Value.slice (some a) len cap] := hcs
    injection hcs with hcs _
    have hlm : len ≤ m := by rw [hmm]; split <;> omega
    have hat : ∀ i, i < len → ∃ K : Opx, (∀ j u, K.v.cells[j]? = some u → W.cell? ((a.add (i * 12)).add j) = some u) ∧ K.ok := fun i hin => by
      obtain ⟨cs', h1, h2⟩ := hi i (by omega)
      rw [cellsOp] at h1
      obtain ⟨_, hlen, hc⟩ := World.cells?_some h1
      obtain ⟨K, rfl, hK1⟩ := open_op h2
      refine ⟨K, fun j u hu => ?_, hK1⟩
      have hj : j < 12 := (Array.getElem?_eq_some_iff.1 hu).1
      rw [hc j hj]
      simpa using hu
    obtain ⟨f, hf⟩ := choose_lt hat
    refine ⟨some a, cap, (List.range len).map f, by rw [List.length_map, List.length_range]; exact hcs, ⟨some a, cap, rfl, by simpa using hl, hm, fun i K hK => ?_⟩, fun K hK => ?_⟩
    · have hin : i < len := by simpa using (List.getElem?_eq_some_iff.1 hK).1
      have hci : f i = K := by simpa [hin] using hK
      have h0 := (hf 0 (by omega)).1 0 _ rfl
      rw [Nat.zero_mul, add_zero', add_zero'] at h0
      obtain ⟨bl, o, rfl⟩ := plain_of h0
      obtain ⟨g1, _⟩ := hf i hin
      rw [hci] at g1
      simp only [add_plain] at g1
      exact ⟨bl, o, rfl, g1⟩
    · obtain ⟨i, hi, rfl⟩ := List.mem_map.1 hK
      exact (hf i (List.mem_range.1 hi)).2
end
end Go.Proofs.YtcdjdnbdblpofaaDoor
