/-
  What the condition on the listed tables gives. Conditions: none.
-/
import Derived.Test.YtcdjdnbdblpofaaDoorSOpen
import Derived.Test.YtcdjdnbdblpofaaDoorPL7
import Derived.Stop.Joined
namespace Go.Proofs.YtcdjdnbdblpofaaDoor
open Go.ChangeShapes Go.WideShapes Go.ChangeAt Go.RowKit
set_option linter.unusedVariables false
set_option maxRecDepth 100000

theorem gRc : Tryd.prog.globalNamed "pharos/keccak.constants" = some 2 := by kernel_rfl
theorem gTurns : Tryd.prog.globalNamed "pharos/keccak.turns" = some 1 := by kernel_rfl
theorem gPlaces : Tryd.prog.globalNamed "pharos/keccak.places" = some 0 := by kernel_rfl
theorem tRc : (Tryd.prog.globals[2]?).map (·.type) = some 130 := by kernel_rfl
theorem tTurns : (Tryd.prog.globals[1]?).map (·.type) = some 128 := by kernel_rfl
theorem tPlaces : (Tryd.prog.globals[0]?).map (·.type) = some 128 := by kernel_rfl



/-- A table's row, out of its reading. -/
theorem tab_of {κ : IntKind} {W : World} {n t e fuel : Nat} {cs : Array Value} {f : Nat → Nat} {d : DataW Unit} {ps : List MemPlace} {enc : TypeId × Value → Unit} {base : Nat} {sp : Nat → Bool} {held : Bool}
    (hu : Tryd.prog.underlying t = some (.array n e)) (he : Tryd.prog.underlying e = some (.int κ)) (hce : Tryd.prog.cellsOf e = 1) (hct : Tryd.prog.cellsOf t = n)
    (h : DataW.trod enc Tryd.prog W base sp held fuel t cs.toList = some (d, ps)) (hd : d = .agg ((List.range n).map fun i => .lit (.int κ (f i : Nat)))) : cs = numA κ n f := by
  obtain ⟨xs, m, rfl, hx, hlen, hn, hel⟩ := DataW.trod_array hu h
  rw [hct] at hlen
  injection hx with hx1 hx2
  rw [hd] at hx1
  injection hx1 with hx1
  apply Array.ext_getElem?
  intro i
  by_cases hi : i < n
  · rw [numA_get hi]
    have h1 := hel i hi
    rw [hce, Nat.mul_one] at h1
    obtain ⟨x, hxi⟩ : ∃ x, xs[i]? = some x := ⟨_, List.getElem?_eq_getElem (by omega)⟩
    rw [hxi] at h1
    obtain ⟨k, e1, e2, _⟩ := DataW.trod_int he h1
    have h2 : (xs.map (·.1))[i]? = some (.lit (.int κ (f i : Nat))) := by rw [← hx1]; simp [hi]
    rw [List.getElem?_map, hxi, e2] at h2
    simp at h2
    have h3 : cs.toList[i]? = some (.int κ k) := by
      have h4 : ((cs.toList.drop i).take 1)[0]? = some (.int κ k) := by rw [e1]; rfl
      simpa using h4
    rw [← h2]
    simpa using h3
  · rw [Array.getElem?_eq_none (by have : cs.size = n := by simpa using hlen
                                   omega), Array.getElem?_eq_none (by simp [numA_size]; omega)]

theorem block_of {W : World} {name : String} {g : Nat} {cs : Array Value} (hg : Tryd.prog.globalNamed name = some g) (h : W.var? Tryd.prog name = some cs) : ∃ t fr, W.heap[g]? = some (.cells cs t fr) := by
  simp only [World.var?, hg, Option.bind_some] at h
  split at h
  · rename_i c t fr hh
    injection h with h
    subst h
    exact ⟨t, fr, hh⟩
  · cases h

/-- What the condition gives the walks. -/
theorem of_laid {W : World} (h : laidMetH Tryd.prog laid3 W) : 3 ≤ W.heap.size ∧ KT W := by
  rw [MakeChecks.laidMetH_plain _ _ _ (by kernel_rfl)] at h
  obtain ⟨ps, ⟨g0, t0, cs0, f0, p0, q0, hg0, ht0, hv0, hd0, ⟨g1, t1, cs1, f1, p1, q1, hg1, ht1, hv1, hd1, ⟨g2, t2, cs2, f2, p2, q2, hg2, ht2, hv2, hd2, _, _⟩, _⟩, _⟩, _, _⟩ := h
  obtain rfl := Option.some.inj (gRc.symm.trans hg0)
  obtain rfl := Option.some.inj (gTurns.symm.trans hg1)
  obtain rfl := Option.some.inj (gPlaces.symm.trans hg2)
  obtain rfl := Option.some.inj (tRc.symm.trans ht0)
  obtain rfl := Option.some.inj (tTurns.symm.trans ht1)
  obtain rfl := Option.some.inj (tPlaces.symm.trans ht2)
  have c0 := tab_of (κ := .u64) (f := rcF) Tryd.underlying130 Tryd.underlying23 (by kernel_rfl) (by kernel_rfl) hd0 (by rfl)
  have c1 := tab_of (κ := .i64) (f := turnsF) Tryd.underlying128 Tryd.underlying3 (by kernel_rfl) (by kernel_rfl) hd1 (by rfl)
  have c2 := tab_of (κ := .i64) (f := placesF) Tryd.underlying128 Tryd.underlying3 (by kernel_rfl) (by kernel_rfl) hd2 (by rfl)
  subst c0 c1 c2
  obtain ⟨u0, r0, b0⟩ := block_of gRc hv0
  obtain ⟨u1, r1, b1⟩ := block_of gTurns hv1
  obtain ⟨u2, r2, b2⟩ := block_of gPlaces hv2
  have hs := (Array.getElem?_eq_some_iff.1 b0).1
  exact ⟨by omega, ⟨u2, r2, b2⟩, ⟨u1, r1, b1⟩, ⟨u0, r0, b0⟩⟩


end Go.Proofs.YtcdjdnbdblpofaaDoor
