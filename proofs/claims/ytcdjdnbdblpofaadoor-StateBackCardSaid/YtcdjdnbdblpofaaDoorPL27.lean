/-
  How what is known reads among the arguments. Conditions: none.
-/
import Derived.Deep.Slices
import Derived.Deep.Fields
import Derived.Test.YtcdjdnbdblpofaaDoorPL22
import Derived.Test.YtcdjdnbdblpofaaDoorSOpen
namespace Go.Proofs.YtcdjdnbdblpofaaDoor
open Go.ChangeShapes Go.WideShapes Go.ChangeAt Go.RowKit Go.Deep
set_option linter.unusedVariables false

theorem add_plain (b o i : Nat) : (⟨b, o, none⟩ : Addr).add i = ⟨b, o + i, none⟩ := by
  unfold Addr.add
  split
  · rename_i h
    subst h
    rfl
  · rfl
theorem plain_of {W : World} {a : Addr} {v : Value} (h : W.cell? a = some v) : ∃ b o, a = ⟨b, o, none⟩ := by
  obtain ⟨b, o, s⟩ := a
  cases s with
  | none => exact ⟨b, o, rfl⟩
  | some q =>
    exfalso
    have : W.cell? (⟨b, o, some q⟩ : Addr) = none := by
      unfold World.cell?
      split
      · simp
      · rfl
    rw [this] at h
    cases h
theorem add_zero' (a : Addr) : a.add 0 = a := by unfold Addr.add; rw [if_pos rfl]
theorem list8 {α : Type} (l : List α) (h : l.length = 8) : ∃ a b c d e f g i, l = [a, b, c, d, e, f, g, i] := by
  match l, h with
  | [a, b, c, d, e, f, g, i], _ => exact ⟨a, b, c, d, e, f, g, i, rfl⟩
theorem list12 {α : Type} (l : List α) (h : l.length = 12) : ∃ a b c d e f g i j k m n, l = [a, b, c, d, e, f, g, i, j, k, m, n] := by
  match l, h with
  | [a, b, c, d, e, f, g, i, j, k, m, n], _ => exact ⟨a, b, c, d, e, f, g, i, j, k, m, n, rfl⟩
instance : Inhabited Kw := ⟨Kw.none⟩
theorem cellsKnown : Tryd.prog.cellsOf 65 = 12 := by kernel_rfl
theorem cellsCell : Tryd.prog.cellsOf 103 = 8 := by kernel_rfl
theorem cellsAcct : Tryd.prog.cellsOf 62 = 7 := by kernel_rfl
theorem cellsStr : Tryd.prog.cellsOf 9 = 1 := by kernel_rfl
theorem cellsBool : Tryd.prog.cellsOf 4 = 1 := by kernel_rfl
theorem cellsCells : Tryd.prog.cellsOf 63 = 1 := by kernel_rfl

section
variable {H : Type} {enc : TypeId × Value → H} {W : World} {sp : Nat → Bool} {held : Bool}

theorem word_of_wf {x0 x1 x2 x3 : Int} (w0 : (Lit.int .u64 x0).wf = true) (w1 : (Lit.int .u64 x1).wf = true) (w2 : (Lit.int .u64 x2).wf = true) (w3 : (Lit.int .u64 x3).wf = true) :
    ∃ n, n < Q256 ∧ x0 = (lb n 0 : Nat) ∧ x1 = (lb n 1 : Nat) ∧ x2 = (lb n 2 : Nat) ∧ x3 = (lb n 3 : Nat) := by
  have hmin : IntKind.u64.min = 0 := by decide
  have hmax : IntKind.u64.max = 18446744073709551615 := by decide +kernel
  simp only [Lit.wf, hmin, hmax, Bool.and_eq_true, decide_eq_true_eq] at w0 w1 w2 w3
  have e := lb_val4 (a := x0.toNat) (b := x1.toNat) (c := x2.toNat) (d := x3.toNat) (by unfold M64; omega) (by unfold M64; omega) (by unfold M64; omega) (by unfold M64; omega)
  refine ⟨val4 x0.toNat x1.toNat x2.toNat x3.toNat, val4_lt (by unfold M64; omega) (by unfold M64; omega) (by unfold M64; omega) (by unfold M64; omega), ?_, ?_, ?_, ?_⟩
  · rw [e.1]; omega
  · rw [e.2.1]; omega
  · rw [e.2.2.1]; omega
  · rw [e.2.2.2]; omega
theorem open_w {n : Nat} {c0 c1 c2 c3 : Value} {x : DataW H × List MemPlace} (h : DataW.trod enc Tryd.prog W 0 sp held n 25 [c0, c1, c2, c3] = some x) :
    ∃ k, k < Q256 ∧ c0 = .int .u64 (lb k 0 : Nat) ∧ c1 = .int .u64 (lb k 1 : Nat) ∧ c2 = .int .u64 (lb k 2 : Nat) ∧ c3 = .int .u64 (lb k 3 : Nat) := by
  obtain ⟨y0, y1, y2, y3, m, hx, hy0, hy1, hy2, hy3⟩ := trod_array4 Tryd.underlying25 cellsU64 h
  obtain ⟨x0, e0, _, w0⟩ := DataW.trod_int Tryd.underlying23 hy0
  obtain ⟨x1, e1, _, w1⟩ := DataW.trod_int Tryd.underlying23 hy1
  obtain ⟨x2, e2, _, w2⟩ := DataW.trod_int Tryd.underlying23 hy2
  obtain ⟨x3, e3, _, w3⟩ := DataW.trod_int Tryd.underlying23 hy3
  simp at e0 e1 e2 e3
  subst e0 e1 e2 e3
  obtain ⟨k, hk, rfl, rfl, rfl, rfl⟩ := word_of_wf w0 w1 w2 w3
  exact ⟨k, hk, rfl, rfl, rfl, rfl⟩
/-- A cell of a storage. -/
theorem open_cell {n : Nat} {cs : List Value} {x : DataW H × List MemPlace} (h : DataW.trod enc Tryd.prog W 0 sp held n 103 cs = some x) :
    ∃ c : Nat × Nat, c.1 < Q256 ∧ c.2 < Q256 ∧ cs = [.int .u64 (lb c.1 0 : Nat), .int .u64 (lb c.1 1 : Nat), .int .u64 (lb c.1 2 : Nat), .int .u64 (lb c.1 3 : Nat), .int .u64 (lb c.2 0 : Nat), .int .u64 (lb c.2 1 : Nat), .int .u64 (lb c.2 2 : Nat), .int .u64 (lb c.2 3 : Nat)] := by
  obtain ⟨xs, m, _, _, hlen, hxl, hf⟩ := DataW.trod_struct Tryd.underlying103 h
  rw [cellsCell] at hlen
  obtain ⟨c0, c1, c2, c3, c4, c5, c6, c7, rfl⟩ := list8 cs hlen
  have f0 : DataW.trod enc Tryd.prog W 0 sp held m 25 (([c0, c1, c2, c3, c4, c5, c6, c7].drop 0).take (Tryd.prog.cellsOf 25)) = xs[0]? := hf 0 _ rfl
  have f1 : DataW.trod enc Tryd.prog W 0 sp held m 25 (([c0, c1, c2, c3, c4, c5, c6, c7].drop 4).take (Tryd.prog.cellsOf 25)) = xs[1]? := hf 1 _ rfl
  rw [cellsWord] at f0 f1
  have l0 : xs[0]? = some (xs[0]'(by rw [hxl]; decide)) := List.getElem?_eq_getElem _
  have l1 : xs[1]? = some (xs[1]'(by rw [hxl]; decide)) := List.getElem?_eq_getElem _
  obtain ⟨k, hk, rfl, rfl, rfl, rfl⟩ := open_w (f0.trans l0)
  obtain ⟨v, hv, rfl, rfl, rfl, rfl⟩ := open_w (f1.trans l1)
  exact ⟨(k, v), hk, hv, rfl⟩

/-- A slice of cells. -/
theorem open_cells {n : Nat} {v : Value} {x : DataW H × List MemPlace} (h : DataW.trod enc Tryd.prog W 0 sp held n 63 [v] = some x) :
    ∃ (cp : Option Addr) (cn cc : Nat) (cs : List (Nat × Nat)), v = .slice cp cn cc ∧ cs.length = cn ∧ (∀ c ∈ cs, c.1 < Q256 ∧ c.2 < Q256) ∧ (cn ≤ cc ∧ cn ≤ maxLen) ∧
      ∀ i c, cs[i]? = some c → ∃ bl o, cp = some ⟨bl, o, none⟩ ∧ (∀ j, j < 4 → W.cell? ⟨bl, o + i * 8 + j, none⟩ = some (.int .u64 (lb c.1 j : Nat))) ∧ (∀ j, j < 4 → W.cell? ⟨bl, o + i * 8 + (j + 4), none⟩ = some (.int .u64 (lb c.2 j : Nat))) := by
  rcases open_slice Tryd.underlying63 h with ⟨hcs, _⟩ | ⟨a, len, cap, m, n', D, Pl, hcs, hb, hl, hm, hmm, hx, hi⟩
  · injection hcs with hcs
    exact ⟨none, 0, 0, [], hcs, rfl, by simp, ⟨Nat.le_refl _, Nat.zero_le _⟩, fun i c hc => by cases hc⟩
  · injection hcs with hcs
    have hlm : len ≤ m := by rw [hmm]; split <;> omega
    have hat : ∀ i, i < len → ∃ c : Nat × Nat, (c.1 < Q256 ∧ c.2 < Q256) ∧ (∀ j, j < 4 → W.cell? ((a.add (i * 8)).add j) = some (.int .u64 (lb c.1 j : Nat))) ∧ (∀ j, j < 4 → W.cell? ((a.add (i * 8)).add (j + 4)) = some (.int .u64 (lb c.2 j : Nat))) := fun i hin => by
      obtain ⟨cs', h1, h2⟩ := hi i (by omega)
      rw [cellsCell] at h1
      obtain ⟨_, hlen, hc⟩ := World.cells?_some h1
      obtain ⟨c, hc1, hc2, rfl⟩ := open_cell h2
      refine ⟨c, ⟨hc1, hc2⟩, fun j hj => ?_, fun j hj => ?_⟩
      · rw [hc j (by omega)]
        have : j = 0 ∨ j = 1 ∨ j = 2 ∨ j = 3 := by omega
        rcases this with rfl | rfl | rfl | rfl <;> rfl
      · rw [hc (j + 4) (by omega)]
        have : j = 0 ∨ j = 1 ∨ j = 2 ∨ j = 3 := by omega
        rcases this with rfl | rfl | rfl | rfl <;> rfl
    obtain ⟨f, hf⟩ : ∃ f : Nat → Nat × Nat, ∀ i, i < len → ((f i).1 < Q256 ∧ (f i).2 < Q256) ∧ (∀ j, j < 4 → W.cell? ((a.add (i * 8)).add j) = some (.int .u64 (lb (f i).1 j : Nat))) ∧ (∀ j, j < 4 → W.cell? ((a.add (i * 8)).add (j + 4)) = some (.int .u64 (lb (f i).2 j : Nat))) := by
      exact choose_lt hat
    refine ⟨some a, len, cap, (List.range len).map f, hcs, by simp, fun c hc => ?_, ⟨hl, Nat.le_trans hl hm⟩, fun i c hc => ?_⟩
    · obtain ⟨i, hi, rfl⟩ := List.mem_map.1 hc
      exact (hf i (List.mem_range.1 hi)).1
    · have hin : i < len := by simpa using (List.getElem?_eq_some_iff.1 hc).1
      have hci : f i = c := by simpa [hin] using hc
      have h0 := (hf 0 (by omega)).2.1 0 (by omega)
      rw [Nat.zero_mul, add_zero', add_zero'] at h0
      obtain ⟨bl, o, rfl⟩ := plain_of h0
      obtain ⟨_, g1, g2⟩ := hf i hin
      rw [hci] at g1 g2
      simp only [add_plain] at g1 g2
      exact ⟨bl, o, rfl, g1, g2⟩

set_option maxRecDepth 10000 in
/-- A known account. -/
theorem open_kn {n : Nat} {cs : List Value} {x : DataW H × List MemPlace} (h : DataW.trod enc Tryd.prog W 0 sp held n 65 cs = some x) :
    ∃ K : Kw, cs = K.v.cells.toList ∧ okT K.ad ∧ Kok W K := by
  obtain ⟨xs, m, _, _, hlen, hxl, hf⟩ := DataW.trod_struct Tryd.underlying65 h
  rw [cellsKnown] at hlen
  obtain ⟨c0, c1, c2, c3, c4, c5, c6, c7, c8, c9, c10, c11, rfl⟩ := list12 cs hlen
  have hl6 : xs.length = 6 := hxl
  have hx : ∀ i, i < 6 → ∃ y, xs[i]? = some y := fun i hi => ⟨_, List.getElem?_eq_getElem (by omega)⟩
  have f0 : DataW.trod enc Tryd.prog W 0 sp held m 9 (([c0, c1, c2, c3, c4, c5, c6, c7, c8, c9, c10, c11].drop 0).take (Tryd.prog.cellsOf 9)) = xs[0]? := hf 0 _ rfl
  have f1 : DataW.trod enc Tryd.prog W 0 sp held m 4 (([c0, c1, c2, c3, c4, c5, c6, c7, c8, c9, c10, c11].drop 1).take (Tryd.prog.cellsOf 4)) = xs[1]? := hf 1 _ rfl
  have f2 : DataW.trod enc Tryd.prog W 0 sp held m 62 (([c0, c1, c2, c3, c4, c5, c6, c7, c8, c9, c10, c11].drop 2).take (Tryd.prog.cellsOf 62)) = xs[2]? := hf 2 _ rfl
  have f3 : DataW.trod enc Tryd.prog W 0 sp held m 4 (([c0, c1, c2, c3, c4, c5, c6, c7, c8, c9, c10, c11].drop 9).take (Tryd.prog.cellsOf 4)) = xs[3]? := hf 3 _ rfl
  have f4 : DataW.trod enc Tryd.prog W 0 sp held m 9 (([c0, c1, c2, c3, c4, c5, c6, c7, c8, c9, c10, c11].drop 10).take (Tryd.prog.cellsOf 9)) = xs[4]? := hf 4 _ rfl
  have f5 : DataW.trod enc Tryd.prog W 0 sp held m 63 (([c0, c1, c2, c3, c4, c5, c6, c7, c8, c9, c10, c11].drop 11).take (Tryd.prog.cellsOf 63)) = xs[5]? := hf 5 _ rfl
  rw [cellsStr] at f0 f4
  rw [cellsBool] at f1 f3
  rw [cellsAcct] at f2
  rw [cellsCells] at f5
  obtain ⟨y0, l0⟩ := hx 0 (by omega)
  obtain ⟨y1, l1⟩ := hx 1 (by omega)
  obtain ⟨y2, l2⟩ := hx 2 (by omega)
  obtain ⟨y3, l3⟩ := hx 3 (by omega)
  obtain ⟨y4, l4⟩ := hx 4 (by omega)
  obtain ⟨y5, l5⟩ := hx 5 (by omega)
  obtain ⟨ad, e0, _, wad⟩ := DataW.trod_string Tryd.underlying9 (f0.trans l0)
  obtain ⟨th, e1, _⟩ := DataW.trod_bool Tryd.underlying4 (f1.trans l1)
  obtain ⟨hs, e3, _⟩ := DataW.trod_bool Tryd.underlying4 (f3.trans l3)
  obtain ⟨co, e4, _, wco⟩ := DataW.trod_string Tryd.underlying9 (f4.trans l4)
  obtain ⟨cp, cn, cc, cells, e5, hcl, hcw, hcc, hcm⟩ := open_cells (f5.trans l5)
  obtain ⟨zs, m2, _, _, hlen2, hzl, hg⟩ := DataW.trod_struct Tryd.underlying62 (f2.trans l2)
  have hz4 : zs.length = 4 := hzl
  have hz : ∀ i, i < 4 → ∃ y, zs[i]? = some y := fun i hi => ⟨_, List.getElem?_eq_getElem (by omega)⟩
  have g0 : DataW.trod enc Tryd.prog W 0 sp held m2 23 (([c2, c3, c4, c5, c6, c7, c8].drop 0).take (Tryd.prog.cellsOf 23)) = zs[0]? := hg 0 _ rfl
  have g1 : DataW.trod enc Tryd.prog W 0 sp held m2 25 (([c2, c3, c4, c5, c6, c7, c8].drop 1).take (Tryd.prog.cellsOf 25)) = zs[1]? := hg 1 _ rfl
  have g2 : DataW.trod enc Tryd.prog W 0 sp held m2 9 (([c2, c3, c4, c5, c6, c7, c8].drop 5).take (Tryd.prog.cellsOf 9)) = zs[2]? := hg 2 _ rfl
  have g3 : DataW.trod enc Tryd.prog W 0 sp held m2 9 (([c2, c3, c4, c5, c6, c7, c8].drop 6).take (Tryd.prog.cellsOf 9)) = zs[3]? := hg 3 _ rfl
  rw [cellsU64] at g0
  rw [cellsWord] at g1
  rw [cellsStr] at g2 g3
  obtain ⟨u0, k0⟩ := hz 0 (by omega)
  obtain ⟨u1, k1⟩ := hz 1 (by omega)
  obtain ⟨u2, k2⟩ := hz 2 (by omega)
  obtain ⟨u3, k3⟩ := hz 3 (by omega)
  obtain ⟨no, d0, _, _⟩ := DataW.trod_int Tryd.underlying23 (g0.trans k0)
  obtain ⟨ba, hba, d1, d2, d3, d4⟩ := open_w (g1.trans k1)
  obtain ⟨rt, d5, _, wrt⟩ := DataW.trod_string Tryd.underlying9 (g2.trans k2)
  obtain ⟨cd, d6, _, wcd⟩ := DataW.trod_string Tryd.underlying9 (g3.trans k3)
  simp at e0 e1 e3 e4 d0 d5 d6
  subst e0 e1 e3 e4 e5 d0 d1 d2 d3 d4 d5 d6
  exact ⟨⟨ad, th, no, ba, rt, cd, hs, co, cp, cn, cc, cells⟩, rfl, wad, ⟨wcd, hba, hcl, hcw, hcc, hcm⟩⟩

set_option maxRecDepth 10000 in
/-- What is known. -/
theorem open_known {base : Nat} {v : Value} {d : DataW H} {p : List MemPlace} (hv : Value.okWide Tryd.prog W .any base 22 v) (h : DataW.Trod enc Tryd.prog W 0 sp held 22 v d p) :
    ∃ (a : Option Addr) (c : Nat) (L : List Kw), v = .slice a L.length c ∧ knL W (.slice a L.length c) L ∧ ∀ K ∈ L, Kok W K ∧ okT K.ad := by
  obtain ⟨a0, len0, cap0, rfl⟩ := okWide_slice Tryd.underlying22 hv
  obtain ⟨fuel, hf⟩ := h
  rcases open_slice Tryd.underlying22 hf with ⟨hcs, _⟩ | ⟨a, len, cap, m, n', D, Pl, hcs, hb, hl, hm, hmm, hx, hi⟩
  · replace hcs : [Value.slice a0 len0 cap0] = [Value.slice none 0 0] := hcs
    injection hcs with hcs _
    exact ⟨none, 0, [], hcs, ⟨none, 0, rfl, Nat.le_refl _, Nat.zero_le _, fun i K hK => by cases hK⟩, fun K hK => by cases hK⟩
  · replace hcs : [Value.slice a0 len0 cap0] = [Value.slice (some a) len cap] := hcs
    injection hcs with hcs _
    have hlm : len ≤ m := by rw [hmm]; split <;> omega
    have hat : ∀ i, i < len → ∃ K : Kw, (∀ j u, K.v.cells[j]? = some u → W.cell? ((a.add (i * 12)).add j) = some u) ∧ okT K.ad ∧ Kok W K := fun i hin => by
      obtain ⟨cs', h1, h2⟩ := hi i (by omega)
      rw [cellsKnown] at h1
      obtain ⟨_, hlen, hc⟩ := World.cells?_some h1
      obtain ⟨K, rfl, hK1, hK2⟩ := open_kn h2
      refine ⟨K, fun j u hu => ?_, hK1, hK2⟩
      have hj : j < 12 := (Array.getElem?_eq_some_iff.1 hu).1
      rw [hc j hj]
      simpa using hu
    obtain ⟨f, hf⟩ := choose_lt hat
    refine ⟨some a, cap, (List.range len).map f, by rw [List.length_map, List.length_range]; exact hcs, ⟨some a, cap, rfl, by simpa using hl, hm, fun i K hK => ?_⟩, fun K hK => ?_⟩
    · have hin : i < len := by simpa using (List.getElem?_eq_some_iff.1 hK).1
      have hci : f i = K := by simpa [hin] using hK
      have h0 := (hf 0 (by omega)).1 0 _ rfl
      rw [Nat.zero_mul, add_zero', add_zero'] at h0
      obtain ⟨bl, o, rfl⟩ := plain_of h0
      obtain ⟨g1, _⟩ := hf i hin
      rw [hci] at g1
      simp only [add_plain] at g1
      exact ⟨bl, o, rfl, g1⟩
    · obtain ⟨i, hi, rfl⟩ := List.mem_map.1 hK
      obtain ⟨_, g2, g3⟩ := hf i (List.mem_range.1 hi)
      exact ⟨g3, g2⟩
end
end Go.Proofs.YtcdjdnbdblpofaaDoor
