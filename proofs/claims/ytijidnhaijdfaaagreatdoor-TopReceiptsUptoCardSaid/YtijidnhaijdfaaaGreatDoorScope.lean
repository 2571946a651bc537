/-
  A scope through which a run within a fence goes without a goto. Conditions: none.
-/
import Derived.WalkMore
import Derived.ControlIn
import Derived.Test.YtijidnhaijdfaaaGreatDoorFlow
namespace Go.Proofs.YtijidnhaijdfaaaGreatDoor
open Go.RowKit

theorem wpIn_scope {F : Fence} {n : Nat} {P : Program} {c : Code} {Q : Exit → Act → World → Prop} {a : Act} {w : World} (hro : F.round = none) (h : c.wpIn F n P (Exit.noGoto Q) a w) : (Code.scope c).wpIn F n P Q a w := by
  intro b k cs hr hb hroom
  have hb0 : b.roundOf = none := hr.trans hro
  obtain ⟨e, a₁, w₁, hq, harr⟩ := h b (.inScope c :: k) cs hr hb hroom
  have h0 : (lone (b.atR a (.code (.scope c) :: k)) cs w).fenced P F := fenced_calm hb hroom rfl
  have h1 : (lone (b.atR a₁ (.inScope c :: k)) cs w₁).fenced P F := fenced_calm hb hroom rfl
  rw [Frame.atR_of_none hb0] at h0 h1 ⊢
  rw [Frame.atR_of_none hb0] at harr
  cases e with
  | normal =>
    have harr : StepsIn _ _ _ _ := harr
    rw [Frame.atR_of_none hb0] at harr
    refine ⟨.normal, a₁, w₁, hq, ?_⟩
    show StepsIn _ _ _ _
    rw [Frame.atR_of_none hb0]
    exact .head h0 step_scope (harr.trans (.one h1 step_inScope))
  | exit id =>
    refine ⟨.exit id, a₁, w₁, hq, ⟨fun k' hk => .head h0 step_scope (harr.1 k' (by simp [exitTo, hk])), fun hs => ?_⟩⟩
    rw [hb0] at hs
    cases hs
  | goto l => exact hq.elim
  | ret => exact ⟨_, a₁, w₁, hq, .of_steps (.one h0 step_scope) harr⟩
  | panic ch => exact ⟨_, a₁, w₁, hq, .of_steps (.one h0 step_scope) harr⟩
  | outgrown => exact ⟨_, a₁, w₁, hq, .of_steps (.one h0 step_scope) harr⟩
end Go.Proofs.YtijidnhaijdfaaaGreatDoor
