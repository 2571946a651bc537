/-
  set and how it is undone: contracts. Conditions: none.
-/
import Derived.Test.YtcdjdnbdblpofaaDoorSAsk
namespace Go.Proofs.YtcdjdnbdblpofaaDoor
open Go.RowKit Go.Maps
attribute [local go_sem] leftBy
set_option linter.unusedSimpArgs false
set_option linter.unusedVariables false


set_option maxRecDepth 100000 in
set_option maxHeartbeats 8000000 in
/-- set. -/
theorem set_any {W : World} {mb n : Nat} {D : DataW Value} (hown : W.ownsMap Tryd.prog 83 heldR mb n D) (hn : n < 1000000000) (a : ByteArray) (k0 k1 k2 k3 v0 v1 v2 v3 o0 o1 o2 o3 : Int) {kl : Lit}
    (hkey : keyOf Tryd.prog 83 (.agg #[.string a, .int .u64 k0, .int .u64 k1, .int .u64 k2, .int .u64 k3]) = some kl)
    (hv : D.atKey kl (.held (.agg #[.int .u64 0, .int .u64 0, .int .u64 0, .int .u64 0])) = .held (.agg #[.int .u64 o0, .int .u64 o1, .int .u64 o2, .int .u64 o3])) :
    Calls Tryd.prog 40 #[.map (some mb), .agg #[.string a, .int .u64 k0, .int .u64 k1, .int .u64 k2, .int .u64 k3], .agg #[.int .u64 v0, .int .u64 v1, .int .u64 v2, .int .u64 v3]] W fun e w' =>
      e = .returned (.func (.func 59) #[] #[.pointer (some ⟨W.heap.size + 4, 0, none⟩), .pointer (some ⟨W.heap.size + 3, 0, none⟩), .pointer (some ⟨W.heap.size, 0, none⟩), .pointer (some ⟨W.heap.size + 1, 0, none⟩)]) ∧
      w'.ownsMap Tryd.prog 83 heldR mb (n + 1) (D.put kl (.held (.agg #[.int .u64 v0, .int .u64 v1, .int .u64 v2, .int .u64 v3]))) ∧ W.grownBy w' (some mb) ∧
      w'.heap[W.heap.size]? = some (.cells #[.map (some mb)] 68 (0, 0)) ∧ w'.heap[W.heap.size + 1]? = some (.cells #[.string a, .int .u64 k0, .int .u64 k1, .int .u64 k2, .int .u64 k3] 83 (0, 0)) ∧
      w'.heap[W.heap.size + 3]? = some (.cells #[.int .u64 o0, .int .u64 o1, .int .u64 o2, .int .u64 o3] 25 (0, 0)) ∧ w'.heap[W.heap.size + 4]? = some (.cells #[.bool (Maps.has D kl)] 4 (0, 0)) := by
  have hlt := hown.lt
  have hl := look2 lawSpot Tryd.underlying68 hown (z := .agg #[.int .u64 0, .int .u64 0, .int .u64 0, .int .u64 0]) (fun w => by kernel_rfl) hkey hv
  have hl3 : ∀ p1 p2 p3, (Instr.lookup 68 (.map (some mb)) (.agg #[.string a, .int .u64 k0, .int .u64 k1, .int .u64 k2, .int .u64 k3]) true).run Tryd.prog (((W.alloc p1).alloc p2).alloc p3) = .ok (.tuple #[.agg #[.int .u64 o0, .int .u64 o1, .int .u64 o2, .int .u64 o3], .bool (Maps.has D kl)]) (((W.alloc p1).alloc p2).alloc p3) := fun p1 p2 p3 =>
    hl _ ((Below.heap_alloc _ _ _ (by simp; omega)).trans ((Below.heap_alloc _ _ _ (by simp; omega)).trans (Below.heap_alloc _ _ _ hlt)))
  clear hl
  generalize Maps.has D kl = hs at *
  go_enter Tryd.func40, Tryd.ntmps40
  go_wp2_with (at_mapUpdate; refine wpList_mapUpdate_own _ rfl _ _ _ 68 rfl 83 25 lawSpot Tryd.underlying68 heldR mb n D rfl (((((hown.alloc _).alloc _).alloc _).alloc _).alloc _) (by unfold maxLen; omega) _ _ kl rfl rfl hkey _ [] rfl ?_; intro w1 hown1 hg1)
  have e0 := fun (k : Nat) (h1 : k < W.heap.size + 5) (h2 : k ≠ mb) => hg1.block k (by simp; omega) (by simpa using h2)
  go_ret
  refine ⟨rfl, hown1, ?_, ?_, ?_, ?_, ?_⟩
  · exact ⟨hg1.os, hg1.tape, hg1.output, by have := hg1.size; simp at this; omega, fun k hk h => (hg1.block k (by simp; omega) h).trans ((Below.heap_alloc _ _ _ (by simp; try omega)).trans ((Below.heap_alloc _ _ _ (by simp; try omega)).trans ((Below.heap_alloc _ _ _ (by simp; try omega)).trans ((Below.heap_alloc _ _ _ (by simp; try omega)).trans (Below.heap_alloc _ _ _ hk)))))⟩
  · exact (e0 _ (by omega) (by omega)).trans ((Below.heap_alloc _ _ _ (by simp; try omega)).trans ((Below.heap_alloc _ _ _ (by simp; try omega)).trans ((Below.heap_alloc _ _ _ (by simp; try omega)).trans ((Below.heap_alloc _ _ _ (by simp; try omega)).trans (heap_new (by simp))))))
  · exact (e0 _ (by omega) (by omega)).trans ((Below.heap_alloc _ _ _ (by simp; try omega)).trans ((Below.heap_alloc _ _ _ (by simp; try omega)).trans ((Below.heap_alloc _ _ _ (by simp; try omega)).trans (heap_new (by simp)))))
  · exact (e0 _ (by omega) (by omega)).trans ((Below.heap_alloc _ _ _ (by simp; try omega)).trans (heap_new (by simp)))
  · exact (e0 _ (by omega) (by omega)).trans (heap_new (by simp))

set_option maxRecDepth 100000 in
set_option maxHeartbeats 8000000 in
/-- How a first value is undone: it is taken away. -/
theorem undo_del {W : World} {mb n pm ps po pw : Nat} {D : DataW Value} (hown : W.ownsMap Tryd.prog 83 heldR mb n D) (a : ByteArray) (k0 k1 k2 k3 : Int) {kl : Lit}
    (hkey : keyOf Tryd.prog 83 (.agg #[.string a, .int .u64 k0, .int .u64 k1, .int .u64 k2, .int .u64 k3]) = some kl)
    (hpm : W.heap[pm]? = some (.cells #[.map (some mb)] 68 (0, 0))) (hps : W.heap[ps]? = some (.cells #[.string a, .int .u64 k0, .int .u64 k1, .int .u64 k2, .int .u64 k3] 83 (0, 0)))
    (hpo : W.heap[po]? = some (.cells #[.bool false] 4 (0, 0))) :
    Calls Tryd.prog 59 #[.pointer (some ⟨po, 0, none⟩), .pointer (some ⟨pw, 0, none⟩), .pointer (some ⟨pm, 0, none⟩), .pointer (some ⟨ps, 0, none⟩)] W fun e w' =>
      e = .returned (.tuple #[]) ∧ w'.ownsMap Tryd.prog 83 heldR mb n (D.del kl) ∧ W.grownBy w' (some mb) := by
  have c0 : W.cell? ⟨po, 0, none⟩ = some (.bool false) := by simp [World.cell?, hpo]
  have c1 : W.cell? ⟨pm, 0, none⟩ = some (.map (some mb)) := by simp [World.cell?, hpm]
  have s0 : W.cell? ⟨ps, 0, none⟩ = some (.string a) := by simp [World.cell?, hps]
  have s1 : W.cell? ⟨ps, 1, none⟩ = some (.int .u64 k0) := by simp [World.cell?, hps]
  have s2 : W.cell? ⟨ps, 2, none⟩ = some (.int .u64 k1) := by simp [World.cell?, hps]
  have s3 : W.cell? ⟨ps, 3, none⟩ = some (.int .u64 k2) := by simp [World.cell?, hps]
  have s4 : W.cell? ⟨ps, 4, none⟩ = some (.int .u64 k3) := by simp [World.cell?, hps]
  clear hpm hps hpo
  go_enter Tryd.func59, Tryd.ntmps59
  go_wp2_with (at_delete; refine wpList_delete_own _ rfl _ _ 68 83 rfl 25 lawSpot Tryd.underlying68 heldR mb n D rfl hown _ kl rfl hkey ?_; intro w1 hown1 hturn1)
  go_end0
  exact ⟨rfl, hown1, hturn1.grown⟩
end Go.Proofs.YtcdjdnbdblpofaaDoor
