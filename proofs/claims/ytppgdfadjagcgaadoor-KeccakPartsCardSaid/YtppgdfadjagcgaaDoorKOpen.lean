/-
  How the listed tables and the arguments of the statements over Keccak read. Conditions: none.
-/
import Derived.Test.YtppgdfadjagcgaaDoorRows
import Derived.Test.YtppgdfadjagcgaaDoorKPerm
import Derived.Test.YtppgdfadjagcgaaDoorKStr
import Derived.WalkKit
import Derived.ProofKit
import Derived.LaidMore
import Derived.OpenShut
import Derived.SliceStrings
import Derived.Stop.Joined
import Derived.SizedLaws
import Derived.ShutString
import Derived.Below
namespace Go.Proofs.YtppgdfadjagcgaaDoor
open Go.ChangeShapes Go.WideShapes Go.ChangeAt Go.RowKit
set_option linter.unusedVariables false

theorem own : ownKnob Tryd.prog.godebug = none := by kernel_rfl
theorem laidOut : laidOutB Tryd.prog = true := by kernel_rfl
def laid3 : List (String × DataW Unit) := [("pharos/keccak.constants", Rows.laid_pharos_keccak_constants), ("pharos/keccak.turns", Rows.laid_pharos_keccak_turns), ("pharos/keccak.places", Rows.laid_pharos_keccak_places)]
theorem gRc : Tryd.prog.globalNamed "pharos/keccak.constants" = some 2 := by kernel_rfl
theorem gTurns : Tryd.prog.globalNamed "pharos/keccak.turns" = some 1 := by kernel_rfl
theorem gPlaces : Tryd.prog.globalNamed "pharos/keccak.places" = some 0 := by kernel_rfl
theorem tRc : (Tryd.prog.globals[2]?).map (·.type) = some 53 := by kernel_rfl
theorem tTurns : (Tryd.prog.globals[1]?).map (·.type) = some 51 := by kernel_rfl
theorem tPlaces : (Tryd.prog.globals[0]?).map (·.type) = some 51 := by kernel_rfl

/-- The door's own heap meets the condition. -/
theorem door_met (os : Os) (args : Array Value) : laidMetH Tryd.prog laid3 ((World.doorLaid Tryd.prog 4000 os).forCall (fun _ _ => 0) ⟨#[], args, []⟩).memory :=
  laidMetH_of_parts3 (fuel := 8) (laidMet_of_run' 8 (by kernel_rfl) (by kernel_rfl)) (by kernel_rfl) (by kernel_rfl)

/-- A table's row, out of its reading. -/
theorem tab_of {κ : IntKind} {W : World} {n t e fuel : Nat} {cs : Array Value} {f : Nat → Nat} {d : DataW Unit} {ps : List MemPlace} {enc : TypeId × Value → Unit} {base : Nat} {sp : Nat → Bool} {held : Bool}
    (hu : Tryd.prog.underlying t = some (.array n e)) (he : Tryd.prog.underlying e = some (.int κ)) (hce : Tryd.prog.cellsOf e = 1) (hct : Tryd.prog.cellsOf t = n)
    (h : DataW.trod enc Tryd.prog W base sp held fuel t cs.toList = some (d, ps)) (hd : d = .agg ((List.range n).map fun i => .lit (.int κ (f i : Nat)))) : cs = numA κ n f := by
  obtain ⟨xs, m, rfl, hx, hlen, hn, hel⟩ := DataW.trod_array hu h
  rw [hct] at hlen
  injection hx with hx1 hx2
  rw [hd] at hx1
  injection hx1 with hx1
  apply Array.ext_getElem?
  intro i
  by_cases hi : i < n
  · rw [numA_get hi]
    have h1 := hel i hi
    rw [hce, Nat.mul_one] at h1
    obtain ⟨x, hxi⟩ : ∃ x, xs[i]? = some x := ⟨_, List.getElem?_eq_getElem (by omega)⟩
    rw [hxi] at h1
    obtain ⟨k, e1, e2, _⟩ := DataW.trod_int he h1
    have h2 : (xs.map (·.1))[i]? = some (.lit (.int κ (f i : Nat))) := by rw [← hx1]; simp [hi]
    rw [List.getElem?_map, hxi, e2] at h2
    simp at h2
    have h3 : cs.toList[i]? = some (.int κ k) := by
      have h4 : ((cs.toList.drop i).take 1)[0]? = some (.int κ k) := by rw [e1]; rfl
      simpa using h4
    rw [← h2]
    simpa using h3
  · rw [Array.getElem?_eq_none (by have : cs.size = n := by simpa using hlen
                                   omega), Array.getElem?_eq_none (by simp [numA_size]; omega)]

theorem block_of {W : World} {name : String} {g : Nat} {cs : Array Value} (hg : Tryd.prog.globalNamed name = some g) (h : W.var? Tryd.prog name = some cs) : ∃ t fr, W.heap[g]? = some (.cells cs t fr) := by
  simp only [World.var?, hg, Option.bind_some] at h
  split at h
  · rename_i c t fr hh
    injection h with h
    subst h
    exact ⟨t, fr, hh⟩
  · cases h

/-- What the condition gives the walks. -/
theorem of_laid {W : World} (h : laidMetH Tryd.prog laid3 W) : 3 ≤ W.heap.size ∧ KT W := by
  rw [MakeChecks.laidMetH_plain _ _ _ (by kernel_rfl)] at h
  obtain ⟨ps, ⟨g0, t0, cs0, f0, p0, q0, hg0, ht0, hv0, hd0, ⟨g1, t1, cs1, f1, p1, q1, hg1, ht1, hv1, hd1, ⟨g2, t2, cs2, f2, p2, q2, hg2, ht2, hv2, hd2, _, _⟩, _⟩, _⟩, _, _⟩ := h
  obtain rfl := Option.some.inj (gRc.symm.trans hg0)
  obtain rfl := Option.some.inj (gTurns.symm.trans hg1)
  obtain rfl := Option.some.inj (gPlaces.symm.trans hg2)
  obtain rfl := Option.some.inj (tRc.symm.trans ht0)
  obtain rfl := Option.some.inj (tTurns.symm.trans ht1)
  obtain rfl := Option.some.inj (tPlaces.symm.trans ht2)
  have c0 := tab_of (κ := .u64) (f := rcF) Tryd.underlying53 Tryd.underlying31 (by kernel_rfl) (by kernel_rfl) hd0 (by rfl)
  have c1 := tab_of (κ := .i64) (f := turnsF) Tryd.underlying51 Tryd.underlying3 (by kernel_rfl) (by kernel_rfl) hd1 (by rfl)
  have c2 := tab_of (κ := .i64) (f := placesF) Tryd.underlying51 Tryd.underlying3 (by kernel_rfl) (by kernel_rfl) hd2 (by rfl)
  subst c0 c1 c2
  obtain ⟨u0, r0, b0⟩ := block_of gRc hv0
  obtain ⟨u1, r1, b1⟩ := block_of gTurns hv1
  obtain ⟨u2, r2, b2⟩ := block_of gPlaces hv2
  have hs := (Array.getElem?_eq_some_iff.1 b0).1
  exact ⟨by omega, ⟨u2, r2, b2⟩, ⟨u1, r1, b1⟩, ⟨u0, r0, b0⟩⟩

theorem weights_strs {H : Type} {e : TypeId} (l : List ByteArray) (x : ByteArray) (hx : x ∈ l) : x.size ∈ DataW.weightsAll (H := H) Tryd.prog e (strs l) := by
  induction l with
  | nil => cases hx
  | cons y r ih =>
    simp only [strs, List.map_cons, DataW.weightsAll, List.mem_append]
    rcases List.mem_cons.1 hx with rfl | hx
    · left
      simp [DataW.weights]
    · exact .inr (ih hx)

/-- A slice of strings among the arguments. -/
theorem open_strs {H : Type} {enc : TypeId × Value → H} {W : World} {base : Nat} {v : Value} {d : DataW H} {p : List MemPlace}
    (hv : Value.okWide Tryd.prog W .any base 22 v) (h : DataW.Trod enc Tryd.prog W 0 (fun _ => true) true 22 v d p)
    (hz : (DataW.weights Tryd.prog 22 d).all (· ≤ reachBytes) = true) : ∃ xs, strV W v xs ∧ ∀ x ∈ xs, x.size ≤ 140737488355328 := by
  obtain ⟨a0, len, cap, rfl⟩ := okWide_slice Tryd.underlying22 hv
  obtain ⟨fuel, hf⟩ := h
  rcases open_strings Tryd.underlying22 Tryd.underlying9 (by kernel_rfl) hf with ⟨hcs, hx⟩ | ⟨a, len', cap', ss, hcs, _, hl, hm, hsl, hx, hcell, hws⟩
  · replace hcs : [Value.slice a0 len cap] = [Value.slice none 0 0] := hcs
    injection hcs with hcs _
    injection hcs with e1 e2 e3
    subst e1 e2 e3
    exact ⟨[], .inl ⟨none, 0, rfl, rfl⟩, fun x hx => by cases hx⟩
  · replace hcs : [Value.slice a0 len cap] = [Value.slice (some a) len' cap'] := hcs
    injection hcs with hcs _
    injection hcs with e1 e2 e3
    subst e1 e2 e3
    simp only [if_true] at hsl
    injection hx with hx1 hx2
    subst hx1
    have hlen : (ss.take len).length = len := by rw [List.length_take]; omega
    refine ⟨ss.take len, ?_, fun x hx => ?_⟩
    · by_cases h0 : len = 0
      · subst h0
        exact .inl ⟨some a, cap, rfl, by simp⟩
      · have hc0 := hcell 0 (by omega)
        have hsp : a.spot = none := by
          cases hs : a.spot with
          | none => rfl
          | some q =>
            exfalso
            have : W.cell? (a.add 0) = none := by
              unfold Addr.add
              rw [if_pos rfl]
              unfold World.cell?
              split
              · simp [hs]
              · rfl
            rw [this] at hc0
            cases hc0
        obtain ⟨b, o, sp⟩ := a
        simp only at hsp
        subst hsp
        refine .inr ⟨b, o, cap, by rw [hlen], by omega, by omega, World.block_lt_of_cell? _ _ hc0, fun j x hj => ?_⟩
        have hjl : j < len := by
          have := (List.getElem?_eq_some_iff.1 hj).1
          omega
        have hadd : (⟨b, o, none⟩ : Addr).add j = ⟨b, o + j, none⟩ := by unfold Addr.add; split <;> simp_all
        have h1 := hcell j (by omega)
        rw [hadd] at h1
        rw [List.getElem?_take, if_pos hjl] at hj
        rw [h1, List.getD_eq_getElem?_getD, hj]
        rfl
    · have hmem := weights_strs (H := H) (e := 9) _ x hx
      have : x.size ∈ DataW.weights Tryd.prog 22 (DataW.slice (strs (ss.take len)) (strs (ss.drop len)) : DataW H) := by
        simp only [DataW.weights, Tryd.underlying22, List.mem_cons, List.mem_append]
        exact .inr (.inl hmem)
      have h2 := List.all_eq_true.1 hz _ this
      have h3 : x.size ≤ reachBytes := by simpa using h2
      exact Nat.le_trans h3 (by decide)
end Go.Proofs.YtppgdfadjagcgaaDoor
