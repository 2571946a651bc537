/-
  The list of all logs, and a copy of it: Logs, slices.Clone. Conditions: the state is one.
-/
import Derived.Maps.AppendAt
import Derived.OwnWalk
import Derived.WalkSpells
import Derived.Test.YtcdjdnbdblpofaaDoorPL20
namespace Go.Proofs.YtcdjdnbdblpofaaDoor
open Go.RowKit Go.Maps
attribute [local go_sem] leftBy leaves
set_option linter.unusedSimpArgs false
set_option linter.unusedVariables false

/-- v is a slice of the logs l. -/
def lgV (W : World) (v : Value) (l : List Lg) : Prop :=
  ∃ a c, v = .slice a l.length c ∧ l.length ≤ c ∧ c ≤ maxLen ∧ ∀ i x, l[i]? = some x → ∃ b o, a = some ⟨b, o, none⟩ ∧ W.cell? ⟨b, o + i * 3, none⟩ = some (.string x.ad) ∧ W.cell? ⟨b, o + i * 3 + 1, none⟩ = some (.slice x.tp x.tn x.tc) ∧ W.cell? ⟨b, o + i * 3 + 2, none⟩ = some (.string x.dt)
theorem lgV.below {W W' : World} {v : Value} {l : List Lg} (h : lgV W v l) (hb : Below W.heap.size W W') : lgV W' v l := by
  obtain ⟨a, c, hv, h1, h2, h3⟩ := h
  refine ⟨a, c, hv, h1, h2, fun i x hx => ?_⟩
  obtain ⟨b, o, ha, c0, c1, c2⟩ := h3 i x hx
  have hl := cell_lt c0
  exact ⟨b, o, ha, (hb.cell (p := ⟨b, o + i * 3, none⟩) hl).trans c0, (hb.cell (p := ⟨b, o + i * 3 + 1, none⟩) hl).trans c1, (hb.cell (p := ⟨b, o + i * 3 + 2, none⟩) hl).trans c2⟩
theorem lgC_at {l : List Lg} {i : Nat} {x : Lg} (h : l[i]? = some x) : (lgC l)[i * 3]? = some (.string x.ad) ∧ (lgC l)[i * 3 + 1]? = some (.slice x.tp x.tn x.tc) ∧ (lgC l)[i * 3 + 2]? = some (.string x.dt) := by
  induction l generalizing i with
  | nil => cases h
  | cons y r ih =>
    cases i with
    | zero =>
      simp at h
      subst h
      exact ⟨rfl, rfl, rfl⟩
    | succ i =>
      have h' : r[i]? = some x := by simpa using h
      have e : ∀ j, (lgC (y :: r))[(i + 1) * 3 + j]? = (lgC r)[i * 3 + j]? := fun j => by
        show (y.c ++ lgC r)[(i + 1) * 3 + j]? = _
        rw [show (i + 1) * 3 + j = y.c.length + (i * 3 + j) by show _ = 3 + _; omega]
        rw [List.getElem?_append_right (by omega)]
        congr 1
        omega
      obtain ⟨a, b, c⟩ := ih h'
      exact ⟨(e 0).trans a, (e 1).trans b, (e 2).trans c⟩
/-- What a row of logs says. -/
theorem lgV_of_row {W : World} {v : Value} {l : List Lg} (h : W.ownsRow 0 43 3 v l.length (lgC l)) : lgV W v l := by
  rcases h.2 with ⟨rfl, h0⟩ | ⟨g, cap, cur, rfl, h2, h3, h4, h5, h6, h7⟩
  · refine ⟨none, 0, by rw [h0], by omega, by decide, fun i x hx => ?_⟩
    rw [List.eq_nil_of_length_eq_zero h0] at hx
    cases hx
  · refine ⟨_, cap, rfl, h4, h5, fun i x hx => ?_⟩
    have hi := (List.getElem?_eq_some_iff.1 hx).1
    obtain ⟨a, b, c⟩ := lgC_at hx
    refine ⟨g, 0, rfl, ?_, ?_, ?_⟩
    · rw [Nat.zero_add, h.cellAt _ (by omega)]; exact a
    · rw [Nat.zero_add, h.cellAt _ (by omega)]; exact b
    · rw [Nat.zero_add, h.cellAt _ (by omega)]; exact c
theorem lgC_one (l : List Lg) : ∀ u ∈ lgC l, u.oneCell' = true := by
  intro u hu
  unfold lgC at hu
  obtain ⟨x, _, hx⟩ := List.mem_flatMap.1 hu
  simp [Lg.c] at hx
  rcases hx with rfl | rfl | rfl <;> rfl

theorem infoL : (Tryd.prog.info? 43).map (fun i => (i.zero, i.size, i.bytes)) = some (some (.agg #[.string ⟨#[]⟩, .slice none 0 0, .string ⟨#[]⟩]), 3, 56) := by kernel_rfl

/-- A list of logs comes back, and nothing has turned. -/
def lgPost (W : World) (l : List Lg) (e : Ending) (w' : World) : Prop := ∃ v', e = .returned v' ∧ lgV w' v' l ∧ Below W.heap.size W w'

set_option maxRecDepth 100000 in
set_option maxHeartbeats 4000000 in
theorem Clone_any {W : World} {v : Value} {l : List Lg} (h : W.ownsRow 0 43 3 v l.length (lgC l)) (hl : l.length ≤ 1000000) :
    Calls Tryd.prog 38 #[v] W (lgPost W l) := by
  obtain ⟨i0, hi, hz0, hz1, hz2⟩ := info_parts infoL
  have hV := lgV_of_row h
  have hen : ∀ (w : World) (a : Option Addr) (n c : Nat), (binOp .eql 37 (.slice a n c) (.slice none 0 0)).run Tryd.prog w = .ok (.bool a.isNone) w := fun w a n c => Lib.run_eql_slice_nil w _ _ a n c 0 0 Tryd.underlying37
  rcases h.2 with ⟨rfl, h0⟩ | ⟨g, cap, cur, rfl, h2, h3, h4, h5, h6, h7⟩
  · go_enter Tryd.func38, Tryd.ntmps38
    go_wp2
    go_ret
    exact ⟨_, rfl, hV, Below.refl _ _⟩
  · have hcell := h.cells (g := g) rfl
    go_enter Tryd.func38, Tryd.ntmps38
    have hE := World.ownsRow_lit (base := 0) (e := 43) (size := 3) W #[] 0 (Nat.zero_le _) (by decide) rfl
    have hnew : ∀ j u, (lgC l)[j]? = some u → (W.alloc (.cells #[] 43)).cell? ((⟨g, 0, none⟩ : Addr).add j) = some u := fun j u hj => by
      have h1 := hcell j u hj
      have h2 : ((⟨g, 0, none⟩ : Addr).add j).block = g := by unfold Addr.add; split <;> rfl
      exact (World.cell?_of_block (w := W) (by rw [h2]; exact Below.heap_alloc _ _ _ (by have := (Array.getElem?_eq_some_iff.1 h3).1; exact this))).trans h1
    clear hcell
    go_wp2_with (at_builtin; refine wpList_append_own_at _ rfl _ _ 37 rfl 0 43 i0 _ 3 56 Tryd.underlying37 hi hz0 hz1 hz2 rfl (by decide) _ 0 [] rfl hE ⟨g, 0, none⟩ l.length cap (lgC l) rfl (lgC_length l) hnew (lgC_one l) (by unfold maxLen; omega) (by omega) (Nat.zero_le _) ?_; intro v' w1 hown1 hgr1 _ _)
    go_ret
    have hb : Below W.heap.size W w1 := ((Below.refl _ W).alloc (Nat.le_refl _) _).grown hgr1 (by simp) (fun k hk => by
      obtain rfl : W.heap.size = k := Option.some.inj hk
      exact Nat.le_refl _)
    simp only [Nat.zero_add, List.nil_append] at hown1
    exact ⟨_, rfl, lgV_of_row hown1, hb⟩

set_option maxRecDepth 100000 in
set_option maxHeartbeats 4000000 in
theorem Logs_S {W : World} {F : Nat → Prop} {b N : Nat} {L : List Kw} {R : List Chg} (h : SRep W F b N L R) (hR : R.length ≤ 1000000) :
    Calls Tryd.prog 18 #[ptr (b + 6)] W (lgPost W (lgF R)) := by
  obtain ⟨un, hC, _⟩ := h
  obtain ⟨lg, s1, hrow, _⟩ := hC.st
  have cC := Clone_any hrow (by have := lgF_le R; omega)
  obtain ⟨_, _, _, _, _, _, c6, _, _⟩ := s1.cells
  have hlt := s1.lt
  clear hC hrow s1
  unfold ptr
  go_enter Tryd.func18, Tryd.ntmps18
  go_wp2_with (go_at_call 38; refine cC.mono ?_; rintro e w' ⟨v, rfl, hv, hb⟩)
  go_ret
  exact ⟨_, rfl, hv, hb⟩
end Go.Proofs.YtcdjdnbdblpofaaDoor
