/-
  A state in a walk: what a call that may change it leaves of all else. Conditions: none.
-/
import Derived.Test.YtcdjdnbdblpofaaDoorPL23
import Derived.Test.YtcdjdnbdblpofaaDoorPL26
import Derived.Test.YtcdjdnbdblpofaaDoorPL27
namespace Go.Proofs.YtcdjdnbdblpofaaDoor
open Go.RowKit Go.Maps
set_option linter.unusedSimpArgs false
set_option linter.unusedVariables false

/-- A state, none of whose blocks was there in the world W0, of which nothing has turned. -/
structure Inv (W0 w : World) (F : Nat → Prop) (b N : Nat) (L : List Kw) (R : List Chg) : Prop where
  rep : SRep w F b N L R
  low : ∀ k, F k → W0.heap.size ≤ k
  bel : Below W0.heap.size W0 w
theorem Inv.below {W0 w w' : World} {F : Nat → Prop} {b N : Nat} {L : List Kw} {R : List Chg} (h : Inv W0 w F b N L R) (hb : Below w.heap.size w w') : Inv W0 w' F b N L R :=
  ⟨h.rep.below hb, h.low, h.bel.trans (hb.mono h.bel.size)⟩
theorem Inv.step {W0 w w' : World} {F : Nat → Prop} {b N N' : Nat} {L : List Kw} {R R' : List Chg} {v : Value} {e : Ending} (h : Inv W0 w F b N L R) (hm : muPost w F b N' L R' v e w') :
    e = .returned v ∧ w.heap.size ≤ w'.heap.size ∧ ∃ F', Inv W0 w' F' b N' L R' ∧ ∀ k, k < w.heap.size → ¬ F k → ¬ F' k ∧ w'.heap[k]? = w.heap[k]? := by
  obtain ⟨he, F', h1, h2, h3, h4⟩ := hm
  have hlow : ∀ k, F' k → W0.heap.size ≤ k := fun k hk => by
    rcases h4 k hk with h | h
    · exact Inv.low ‹_› k h
    · exact Nat.le_trans (Inv.bel ‹_›).size h
  refine ⟨he, h2.size, F', ⟨h1, hlow, ?_⟩, fun k hk hn => ⟨fun hF => ?_, h2.block k hk hn⟩⟩
  · exact h.bel.trans (h2.toBelow h.bel.size h.low)
  · rcases h4 k hF with h | h
    · exact hn h
    · omega
theorem lgV_take {W : World} {a : Option Addr} {c : Nat} {l : List Lg} (h : lgV W (.slice a l.length c) l) (m : Nat) : lgV W (.slice a (l.take m).length c) (l.take m) := by
  obtain ⟨a2, c2, hv, h1, h2, h3⟩ := h
  obtain ⟨rfl, rfl⟩ : a = a2 ∧ c = c2 := by simpa using hv
  have hl : (l.take m).length ≤ l.length := by rw [List.length_take]; omega
  refine ⟨a, c, rfl, by omega, h2, fun i x hi => ?_⟩
  have hi2 := (List.getElem?_eq_some_iff.1 hi).1
  rw [List.getElem?_take, if_pos (by rw [List.length_take] at hi2; omega)] at hi
  exact h3 i x hi
/-- The first i logs, noted. -/
def notes (l : List Lg) (i : Nat) : List Chg := ((l.take i).map Chg.note).reverse
theorem notes_zero (l : List Lg) : notes l 0 = [] := rfl
theorem notes_succ {l : List Lg} {i : Nat} {x : Lg} (h : l[i]? = some x) : notes l (i + 1) = .note x :: notes l i := by
  have hi := (List.getElem?_eq_some_iff.1 h).1
  unfold notes
  rw [List.take_succ_eq_append_getElem hi, (List.getElem?_eq_some_iff.1 h).2, List.map_append, List.reverse_append]
  rfl
theorem notes_length {l : List Lg} {i : Nat} (h : i ≤ l.length) : (notes l i).length = i := by
  unfold notes
  rw [List.length_reverse, List.length_map, List.length_take]
  omega
theorem lgF_notes : ∀ (l : List Lg), lgF ((l.map Chg.note).reverse) = l := by
  intro l
  have key : ∀ m : List Lg, lgF (m.map Chg.note) = m.reverse := fun m => by
    induction m with
    | nil => rfl
    | cons x r ih =>
      show lgF (r.map Chg.note) ++ [x] = _
      rw [ih, List.reverse_cons]
  have := key l.reverse
  rw [List.reverse_reverse, List.map_reverse] at this
  exact this
theorem lgF_notes_take (l : List Lg) (i : Nat) : lgF (notes l i) = l.take i := lgF_notes _
theorem wmF_notes (l : List Lg) (a : ByteArray) : wmF ((l.map Chg.note).reverse) a = false := by
  have key : ∀ m : List Lg, wmF (m.map Chg.note) a = false := fun m => by
    induction m with
    | nil => rfl
    | cons x r ih => exact ih
  rw [← List.map_reverse]
  exact key _
theorem ceF_notes (l : List Lg) (p : ByteArray × Nat) : ceF ((l.map Chg.note).reverse) p = false := by
  have key : ∀ m : List Lg, ceF (m.map Chg.note) p = false := fun m => by
    induction m with
    | nil => rfl
    | cons x r ih => exact ih
  rw [← List.map_reverse]
  exact key _
theorem svF_notes (l : List Lg) (p : ByteArray × Nat) : svF ((l.map Chg.note).reverse) p = none := by
  have key : ∀ m : List Lg, svF (m.map Chg.note) p = none := fun m => by
    induction m with
    | nil => rfl
    | cons x r ih => exact ih
  rw [← List.map_reverse]
  exact key _
theorem oriN_err (L : List Kw) (a : ByteArray) (k : Nat) : (oriN L a k).2 = 0 ∨ (oriN L a k).2 = 190 := by
  unfold oriN oriK oriC
  split
  · split
    · exact .inl rfl
    · split
      · exact .inl rfl
      · exact .inr rfl
  · exact .inr rfl
end Go.Proofs.YtcdjdnbdblpofaaDoor
