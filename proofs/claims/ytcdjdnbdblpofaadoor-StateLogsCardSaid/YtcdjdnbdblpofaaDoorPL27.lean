/-
  set, in terms of what a map says by its keys. Conditions: none.
-/
import Derived.Test.YtcdjdnbdblpofaaDoorPL25
import Derived.Test.YtcdjdnbdblpofaaDoorPL26
namespace Go.Proofs.YtcdjdnbdblpofaaDoor
open Go.RowKit Go.Maps
attribute [local go_sem] leftBy leaves
set_option linter.unusedSimpArgs false
set_option linter.unusedVariables false

/-- What set leaves: the map, and its boxes from q on. -/
structure setQ (W : World) (mb N : Nat) (p : ByteArray × Nat) (g : ByteArray × Nat → Option Nat) (v : Nat) (q : Nat) (w' : World) : Prop where
  fr : Fr (fun k => k = mb) W w'
  map : MV w' 83 spW okP mb (N + 1) (W4 0) (fun j => if j = p then some (W4 v) else (g j).map W4)
  q0 : W.heap.size ≤ q
  bm : w'.heap[q]? = some (.cells #[.map (some mb)] 68 (0, 0))
  bs : w'.heap[q + 1]? = some (.cells (spW p).cells 83 (0, 0))
  bw : w'.heap[q + 3]? = some (.cells (W4 ((g p).getD 0)).cells 25 (0, 0))
  bh : w'.heap[q + 4]? = some (.cells #[.bool (g p).isSome] 4 (0, 0))

theorem set_mv {W : World} {mb N : Nat} {g : ByteArray × Nat → Option Nat} (hm : MV W 83 spW okP mb N (W4 0) (fun j => (g j).map W4)) (hN : N ≤ 1000000) (p : ByteArray × Nat) (hp : okP p) (v : Nat) :
    Calls Tryd.prog 40 #[.map (some mb), spW p, W4 v] W fun e w' => ∃ q, e = .returned (cloV q) ∧ setQ W mb N p g v q w' := by
  obtain ⟨D, h1, h2⟩ := hm
  obtain ⟨kl, hk⟩ := keyP.some p hp
  obtain ⟨h3, h4⟩ := h2 p kl hp hk
  dsimp only at h3 h4
  have h4' : D.atKey kl (.held (.agg #[.int .u64 0, .int .u64 0, .int .u64 0, .int .u64 0])) = .held (W4 ((g p).getD 0)) := by
    rw [← W4_zero, h4]
    cases g p <;> rfl
  refine (set_any h1 (by omega) p.1 _ _ _ _ (lb v 0 : Nat) (lb v 1 : Nat) (lb v 2 : Nat) (lb v 3 : Nat) _ _ _ _ hk h4').mono ?_
  rintro e w' ⟨rfl, ho, hg, b0, b1, b3, b4⟩
  refine ⟨W.heap.size, rfl, ⟨hg.os, hg.tape, hg.output, hg.size, fun k hk hT => hg.block k hk (by simpa using hT)⟩, ⟨_, ho, fun j kj hj hkj => ?_⟩, Nat.le_refl _, b0, b1, b3, ?_⟩
  · by_cases e : j = p
    · subst e
      obtain rfl := Option.some.inj (hk.symm.trans hkj)
      dsimp only
      rw [if_pos rfl]
      exact ⟨has_put_same h1.isMap (lawSpot.key hk) _, atKey_put_same h1.isMap (lawSpot.key hk) _ _⟩
    · have hne : kj ≠ kl := fun e' => e (keyP.inj _ _ hj hp (lawSpot.inj (e' ▸ hkj) hk))
      dsimp only
      rw [if_neg e, has_put_other hne, atKey_put_other hne]
      exact h2 j kj hj hkj
  · rw [b4, h3]
    cases g p <;> rfl

/-- Where a region that saves stands: nothing done yet; or set has been called. -/
def saR (W1 : World) (b mb N : Nat) (p : ByteArray × Nat) (g : ByteArray × Nat → Option Nat) (v : Nat) (lg un : Value) (xs : List Value) (s : Option (Nat × PuS)) (w' : World) : Prop :=
  match s with
  | none => Fr (fun _ => False) W1 w'
  | some (q, ps) => ∃ wm, setQ W1 mb N p g v q wm ∧ stA wm b lg un ∧ wm.ownsRow 0 1 1 un xs.length xs ∧ puR wm b lg un xs (cloV q) ps w'
def saC (s : Option (Nat × PuS)) : Prop := match s with | none => True | some (_, ps) => ps.st ≤ 2
theorem saR_late {W1 : World} {b mb N : Nat} {p : ByteArray × Nat} {g : ByteArray × Nat → Option Nat} {v : Nat} {lg un : Value} {xs : List Value} {s : Option (Nat × PuS)} {w' : World} (hC : saC s) (hR : saR W1 b mb N p g v lg un xs s w') (h1 : stA W1 b lg un) : w'.cell? ⟨b + 6, 7, none⟩ = some un := by
  cases s with
  | none =>
    obtain ⟨_, _, _, _, _, _, _, d7, _⟩ := h1.cells
    have hR : Fr (fun _ => False) W1 w' := hR
    exact hR.cell d7 id h1.lt
  | some qs =>
    obtain ⟨q, ps⟩ := qs
    have hC : ps.st ≤ 2 := hC
    obtain ⟨wm, _, _, _, hq⟩ := hR
    have h2 := hq.st
    rw [if_pos hC] at h2
    obtain ⟨_, _, _, _, _, _, _, d7, _⟩ := h2.cells
    exact d7
end Go.Proofs.YtcdjdnbdblpofaaDoor
