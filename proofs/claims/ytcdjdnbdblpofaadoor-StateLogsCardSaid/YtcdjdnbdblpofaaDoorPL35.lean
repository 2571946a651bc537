/-
  How logs read among the arguments. Conditions: none.
-/
import Derived.Test.YtcdjdnbdblpofaaDoorPL33
namespace Go.Proofs.YtcdjdnbdblpofaaDoor
open Go.ChangeShapes Go.WideShapes Go.ChangeAt Go.RowKit Go.Deep
set_option linter.unusedVariables false

theorem cellsLog : Tryd.prog.cellsOf 43 = 3 := by kernel_rfl
theorem cellsStrs : Tryd.prog.cellsOf 41 = 1 := by kernel_rfl
instance : Inhabited ByteArray := ⟨⟨#[]⟩⟩
instance : Inhabited Lg := ⟨⟨⟨#[]⟩, none, 0, 0, ⟨#[]⟩, []⟩⟩
theorem list3 {α : Type} (l : List α) (h : l.length = 3) : ∃ a b c, l = [a, b, c] := by
  match l, h with
  | [a, b, c], _ => exact ⟨a, b, c, rfl⟩

section
variable {H : Type} {enc : TypeId × Value → H} {W : World} {sp : Nat → Bool} {held : Bool}

set_option maxRecDepth 10000 in
/-- A slice of texts. -/
theorem open_tops {n : Nat} {v : Value} {x : DataW H × List MemPlace} (h : DataW.trod enc Tryd.prog W 0 sp held n 41 [v] = some x) :
    ∃ (tp : Option Addr) (tn tc : Nat) (tops : List ByteArray), v = .slice tp tn tc ∧ tops.length = tn ∧ tn ≤ tc ∧ tc ≤ maxLen ∧
      ∀ j s, tops[j]? = some s → ∃ tb t0, tp = some ⟨tb, t0, none⟩ ∧ W.cell? ⟨tb, t0 + j, none⟩ = some (.string s) := by
  rcases open_slice Tryd.underlying41 h with ⟨hcs, _⟩ | ⟨a, len, cap, m, n', D, Pl, hcs, hb, hl, hm, hmm, hx, hi⟩
  · injection hcs with hcs
    exact ⟨none, 0, 0, [], hcs, rfl, Nat.le_refl _, Nat.zero_le _, fun i c hc => by cases hc⟩
  · injection hcs with hcs
    have hlm : len ≤ m := by rw [hmm]; split <;> omega
    have hat : ∀ i, i < len → ∃ s : ByteArray, W.cell? (a.add i) = some (.string s) := fun i hin => by
      obtain ⟨cs', h1, h2⟩ := hi i (by omega)
      rw [cellsStr, Nat.mul_one] at h1
      obtain ⟨_, hlen, hc⟩ := World.cells?_some h1
      obtain ⟨s, rfl, _⟩ := DataW.trod_string Tryd.underlying9 h2
      have := hc 0 (by omega)
      rw [add_zero'] at this
      exact ⟨s, this⟩
    obtain ⟨f, hf⟩ := choose_lt hat
    refine ⟨some a, len, cap, (List.range len).map f, hcs, by simp, hl, hm, fun i c hc => ?_⟩
    have hin : i < len := by simpa using (List.getElem?_eq_some_iff.1 hc).1
    have hci : f i = c := by simpa [hin] using hc
    have h0 := hf 0 (by omega)
    rw [add_zero'] at h0
    obtain ⟨bl, o, rfl⟩ := plain_of h0
    have g := hf i hin
    rw [hci, add_plain] at g
    exact ⟨bl, o, rfl, g⟩

set_option maxRecDepth 10000 in
/-- A log. -/
theorem open_log {n : Nat} {cs : List Value} {x : DataW H × List MemPlace} (h : DataW.trod enc Tryd.prog W 0 sp held n 43 cs = some x) : ∃ l : Lg, cs = l.c ∧ topV W l := by
  obtain ⟨xs, m, _, _, hlen, hxl, hf⟩ := DataW.trod_struct Tryd.underlying43 h
  rw [cellsLog] at hlen
  obtain ⟨c0, c1, c2, rfl⟩ := list3 cs hlen
  have hl3 : xs.length = 3 := hxl
  have hx : ∀ i, i < 3 → ∃ y, xs[i]? = some y := fun i hi => ⟨_, List.getElem?_eq_getElem (by omega)⟩
  have f0 : DataW.trod enc Tryd.prog W 0 sp held m 9 (([c0, c1, c2].drop 0).take (Tryd.prog.cellsOf 9)) = xs[0]? := hf 0 _ rfl
  have f1 : DataW.trod enc Tryd.prog W 0 sp held m 41 (([c0, c1, c2].drop 1).take (Tryd.prog.cellsOf 41)) = xs[1]? := hf 1 _ rfl
  have f2 : DataW.trod enc Tryd.prog W 0 sp held m 9 (([c0, c1, c2].drop 2).take (Tryd.prog.cellsOf 9)) = xs[2]? := hf 2 _ rfl
  rw [cellsStr] at f0 f2
  rw [cellsStrs] at f1
  obtain ⟨y0, l0⟩ := hx 0 (by omega)
  obtain ⟨y1, l1⟩ := hx 1 (by omega)
  obtain ⟨y2, l2⟩ := hx 2 (by omega)
  obtain ⟨ad, e0, _, wad⟩ := DataW.trod_string Tryd.underlying9 (f0.trans l0)
  obtain ⟨tp, tn, tc, tops, e1, h1, h2, h3, h4⟩ := open_tops (f1.trans l1)
  obtain ⟨dt, e2, _, wdt⟩ := DataW.trod_string Tryd.underlying9 (f2.trans l2)
  simp at e0 e2
  subst e0 e1 e2
  exact ⟨⟨ad, tp, tn, tc, dt, tops⟩, rfl, h1, h2, h3, h4⟩

set_option maxRecDepth 10000 in
/-- Logs. -/
theorem open_logs {base : Nat} {v : Value} {d : DataW H} {p : List MemPlace} (hv : Value.okWide Tryd.prog W .any base 37 v) (h : DataW.Trod enc Tryd.prog W 0 sp held 37 v d p) :
    ∃ (a : Option Addr) (c : Nat) (l : List Lg), v = .slice a l.length c ∧ lgV W (.slice a l.length c) l ∧ ∀ x ∈ l, topV W x := by
  obtain ⟨a0, len0, cap0, rfl⟩ := okWide_slice Tryd.underlying37 hv
  obtain ⟨fuel, hf⟩ := h
  rcases open_slice Tryd.underlying37 hf with ⟨hcs, _⟩ | ⟨a, len, cap, m, n', D, Pl, hcs, hb, hl, hm, hmm, hx, hi⟩
  · replace hcs : [Value.slice a0 len0 cap0] = [Value.slice none 0 0] := hcs
    injection hcs with hcs _
    exact ⟨none, 0, [], hcs, ⟨none, 0, rfl, Nat.le_refl _, Nat.zero_le _, fun i K hK => by cases hK⟩, fun K hK => by cases hK⟩
  · replace hcs : [Value.slice a0 len0 cap0] = [Value.slice (some a) len cap] := hcs
    injection hcs with hcs _
    have hlm : len ≤ m := by rw [hmm]; split <;> omega
    have hat : ∀ i, i < len → ∃ x : Lg, (W.cell? ((a.add (i * 3)).add 0) = some (.string x.ad) ∧ W.cell? ((a.add (i * 3)).add 1) = some (.slice x.tp x.tn x.tc) ∧ W.cell? ((a.add (i * 3)).add 2) = some (.string x.dt)) ∧ topV W x := fun i hin => by
      obtain ⟨cs', h1, h2⟩ := hi i (by omega)
      rw [cellsLog] at h1
      obtain ⟨_, hlen, hc⟩ := World.cells?_some h1
      obtain ⟨x, rfl, ht⟩ := open_log h2
      exact ⟨x, ⟨hc 0 (by omega), hc 1 (by omega), hc 2 (by omega)⟩, ht⟩
    obtain ⟨f, hf⟩ := choose_lt hat
    refine ⟨some a, cap, (List.range len).map f, by rw [List.length_map, List.length_range]; exact hcs, ⟨some a, cap, rfl, by simpa using hl, hm, fun i x hx => ?_⟩, fun x hx => ?_⟩
    · have hin : i < len := by simpa using (List.getElem?_eq_some_iff.1 hx).1
      have hci : f i = x := by simpa [hin] using hx
      have h0 := (hf 0 (by omega)).1.1
      rw [Nat.zero_mul, add_zero', add_zero'] at h0
      obtain ⟨bl, o, rfl⟩ := plain_of h0
      obtain ⟨⟨g0, g1, g2⟩, _⟩ := hf i hin
      rw [hci] at g0 g1 g2
      simp only [add_plain] at g0 g1 g2
      exact ⟨bl, o, rfl, g0, g1, g2⟩
    · obtain ⟨i, hi, rfl⟩ := List.mem_map.1 hx
      exact (hf i (List.mem_range.1 hi)).2
end
end Go.Proofs.YtcdjdnbdblpofaaDoor
