/-
  Arms of the law for regions of open order, whose values are found on the way. Conditions: none.
-/
import Derived.Test.YtijidnhaijdfaaaGreatDoorPR4
import Derived.Test.YtijidnhaijdfaaaGreatDoorRange
namespace Go.Proofs.YtijidnhaijdfaaaGreatDoor
open Go.RowKit
set_option linter.unusedVariables false

section
variable {P : Program} {ops : Array Oper} {σ : Type} {R : σ → World → Prop} {C : σ → Prop}
theorem flowU_readE {kd : Nat → Nat} {Q : Act → σ → Prop} {k : Nat} {a : Act} {s : σ} {o : Oper} {rest : List Oper} (hk : kd k = 1) (hw : Region.wanted o (yielded ops a.tmps) = true)
    (h : ∀ K : Act → Prop, (∀ a', flowU P ops R C kd Q (k + 1) rest a' s → K a') → ∃ v, (∀ w', R s w' → (execOp a.eval o).run P w' = .ok (.value v) w') ∧ K (a.put o.dst v)) : flowU P ops R C kd Q k (o :: rest) a s :=
  let ⟨v, h1, h2⟩ := h _ fun _ h => h
  flowU_read v hk hw h1 fun K hK => hK _ h2
theorem flowU_lateE {kd : Nat → Nat} {Q : Act → σ → Prop} {k : Nat} {a : Act} {s : σ} {o : Oper} {rest : List Oper} (hk : kd k = 0) (hw : Region.wanted o (yielded ops a.tmps) = true)
    (h : ∀ K : Act → Prop, (∀ a', flowU P ops R C kd Q (k + 1) rest a' s → K a') → ∃ v, (∀ s0 w', C s0 → R s0 w' → (execOp a.eval o).run P w' = .ok (.value v) w') ∧ K (a.put o.dst v)) : flowU P ops R C kd Q k (o :: rest) a s :=
  let ⟨v, h1, h2⟩ := h _ fun _ h => h
  flowU_late v hk hw h1 fun K hK => hK _ h2
theorem flowU_skip {kd : Nat → Nat} {Q : Act → σ → Prop} {k : Nat} {a : Act} {s : σ} {o : Oper} {rest : List Oper} (hw : Region.wanted o (yielded ops a.tmps) = false)
    (h : ∀ K : Act → Prop, (∀ a', flowU P ops R C kd Q (k + 1) rest a' s → K a') → K (a.put o.dst undef)) : flowU P ops R C kd Q k (o :: rest) a s :=
  .inr ⟨hw, h _ fun _ h => h⟩

/-- Nothing has turned but block q, which holds o1, or, behind the region's store, o2. -/
structure stR (W1 : World) (q : Nat) (o1 o2 : Obj) (s : Bool) (w' : World) : Prop where
  fr : Fr (fun k => k = q) W1 w'
  now : w'.heap[q]? = some (if s then o2 else o1)
/-- A cell that stays reads as it did. -/
theorem Fr.cell {T : Nat → Prop} {A W : World} (h : Fr T A W) {k o : Nat} {v : Value} (hv : A.cell? ⟨k, o, none⟩ = some v) (hT : ¬ T k) (hk : k < A.heap.size) : W.cell? ⟨k, o, none⟩ = some v :=
  (World.cell?_of_block (a := ⟨k, o, none⟩) (h.block k hk hT)).trans hv
end
end Go.Proofs.YtijidnhaijdfaaaGreatDoor
