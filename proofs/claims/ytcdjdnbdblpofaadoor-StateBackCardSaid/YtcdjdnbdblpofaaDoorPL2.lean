/-
  The contract of Save at a state of which nothing was changed. Conditions: none.
-/
import Derived.Maps.AppendAt
import Derived.Test.YtcdjdnbdblpofaaDoorSSet
import Derived.Test.YtcdjdnbdblpofaaDoorPL1
namespace Go.Proofs.YtcdjdnbdblpofaaDoor
open Go.RowKit Go.Maps
attribute [local go_sem] leftBy leaves
set_option linter.unusedSimpArgs false
set_option linter.unusedVariables false


/-- The closure that undoes a set. -/
def cloV (q : Nat) : Value := .func (.func 59) #[] #[.pointer (some ⟨q + 4, 0, none⟩), .pointer (some ⟨q + 3, 0, none⟩), .pointer (some ⟨q, 0, none⟩), .pointer (some ⟨q + 1, 0, none⟩)]
/-- What it leads to. -/
structure setB (N mb n : Nat) (D : DataW Value) (sp wa : Array Value) (hs : Bool) (q : Nat) (w : World) : Prop where
  own : w.ownsMap Tryd.prog 83 heldR mb n D
  le : N ≤ q
  bm : w.heap[q]? = some (.cells #[.map (some mb)] 68 (0, 0))
  bs : w.heap[q + 1]? = some (.cells sp 83 (0, 0))
  bw : w.heap[q + 3]? = some (.cells wa 25 (0, 0))
  bh : w.heap[q + 4]? = some (.cells #[.bool hs] 4 (0, 0))

theorem setB.kept {N mb n : Nat} {D : DataW Value} {sp wa : Array Value} {hs : Bool} {q : Nat} {w w' : World} (h : setB N mb n D sp wa hs q w) (T : Nat → Prop) (hT : ∀ k, T k → k ≠ mb ∧ k < N) (hb : ∀ k, k < w.heap.size → ¬ T k → w'.heap[k]? = w.heap[k]?) : setB N mb n D sp wa hs q w' := by
  obtain ⟨h0, h2, h3, h4, h5, h6⟩ := h
  have z := fun (k : Nat) o (hk : w.heap[k]? = some o) => (Array.getElem?_eq_some_iff.1 hk).1
  have nT : ∀ k, N ≤ k → ¬ T k := fun k hk ht => by have := (hT k ht).2; omega
  exact ⟨owns_of h0 (hb mb h0.lt (fun ht => (hT mb ht).1 rfl)), h2, (hb _ (z _ _ h3) (nT _ h2)).trans h3, (hb _ (z _ _ h4) (nT _ (by omega))).trans h4, (hb _ (z _ _ h5) (nT _ (by omega))).trans h5, (hb _ (z _ _ h6) (nT _ (by omega))).trans h6⟩
theorem setB.below {N mb n : Nat} {D : DataW Value} {sp wa : Array Value} {hs : Bool} {q : Nat} {w w' : World} (h : setB N mb n D sp wa hs q w) (hb : Below w.heap.size w w') : setB N mb n D sp wa hs q w' :=
  h.kept (fun _ => False) (fun _ h => h.elim) fun k hk _ => hb.block k hk

theorem append_exec {P : Program} {o : Oper} {a : Act} {w' w2 : World} {s x : Operand} {t : TypeId} (ho : o.op = .call { callee := .builtin .append, args := #[s, x], argTypes := #[t, t] }) {v u v' : Value} (hs : a.eval s = v) (hx : a.eval x = u)
    (hr : (Builtin.append_ #[t, t] o.type #[v, u]).run P w' = .ok v' w2) : (execOp a.eval o).run P w' = .ok (.value v') w2 := by
  unfold execOp
  simp only [ho, resolve, invoke, builtin, Sem.run_bind, Sem.run_pure, Result.andThen_ok, List.map_toArray, List.map_cons, List.map_nil, hs, hx, hr]

theorem stA.set {W : World} {b : Nat} {lg un : Value} (h : stA W b lg un) (u : Value) : stA (W.setCell ⟨b + 6, 7, none⟩ u) b lg u := by
  obtain ⟨hlt, hk⟩ := Array.getElem?_eq_some_iff.1 (show W.heap[b + 6]? = _ from h)
  show (W.heap.modify (b + 6) _)[b + 6]? = _
  rw [Array.getElem?_eq_getElem (by rw [Array.size_modify]; exact hlt), Array.getElem_modify_self, hk]
  rfl

/-- Where a saving region stands: stage, closure, list, its room. -/
structure SvS where
  st : Nat
  q : Nat
  g : Nat
  cap : Nat
def svP1 (v : Value) (s : SvS) : Prop := ∃ q, v = cloV q ∧ s = ⟨1, q, 0, 0⟩
def svP2 (q : Nat) (v : Value) (s : SvS) : Prop := ∃ g, v = .slice (some ⟨g, 0, none⟩) 1 1 ∧ s = ⟨2, q, g, 0⟩
def svP3 (q : Nat) (v : Value) (s : SvS) : Prop := ∃ g cap, v = .slice (some ⟨g, 0, none⟩) 1 cap ∧ s = ⟨3, q, g, cap⟩
/-- What is known there. -/
structure svR (W1 : World) (b mb : Nat) (lg un : Value) (M0 : World → Prop) (B : Nat → World → Prop) (s : SvS) (w' : World) : Prop where
  fr : Fr (fun k => k = mb ∨ k = b + 6) W1 w'
  st : stA w' b lg (if s.st ≤ 3 then un else .slice (some ⟨s.g, 0, none⟩) 1 s.cap)
  clo : if s.st = 0 then M0 w' else B s.q w'
  one : s.st = 2 → W1.heap.size ≤ s.g ∧ w'.heap[s.g]? = some (.cells #[cloV s.q] 1 (0, 0))
  row : 3 ≤ s.st → W1.heap.size ≤ s.g ∧ s.g < w'.heap.size ∧ 1 ≤ s.cap ∧ s.cap ≤ maxLen ∧ w'.cell? ⟨s.g, 0, none⟩ = some (cloV s.q)

theorem cells4w {w : World} {p : Nat} {c0 c1 c2 c3 : Value} {t : TypeId} (h : w.heap[p]? = some (.cells #[c0, c1, c2, c3] t (0, 0))) : w.cell? ⟨p, 0, none⟩ = some c0 ∧ w.cell? ⟨p, 1, none⟩ = some c1 ∧ w.cell? ⟨p, 2, none⟩ = some c2 ∧ w.cell? ⟨p, 3, none⟩ = some c3 := by
  refine ⟨?_, ?_, ?_, ?_⟩ <;> simp [World.cell?, h]

theorem infoF : (Tryd.prog.info? 1).map (fun i => (i.zero, i.size, i.bytes)) = some (some .nilFunc, 1, 8) := by kernel_rfl

set_option maxRecDepth 100000 in
set_option maxHeartbeats 16000000 in
/-- Save, the first change of a state. -/
theorem Save_first {W : World} {b n : Nat} {lg : Value} {D : DataW Value} (hst : stA W b lg (.slice none 0 0)) (hown : W.ownsMap Tryd.prog 83 heldR (b + 2) n D) (hn : n < 1000) (a : ByteArray) (k0 k1 k2 k3 v0 v1 v2 v3 o0 o1 o2 o3 p0 p1 p2 p3 : Int) {kl : Lit}
    (hkey : keyOf Tryd.prog 83 (.agg #[.string a, .int .u64 k0, .int .u64 k1, .int .u64 k2, .int .u64 k3]) = some kl)
    (hv : D.atKey kl (.held (.agg #[.int .u64 0, .int .u64 0, .int .u64 0, .int .u64 0])) = .held (.agg #[.int .u64 o0, .int .u64 o1, .int .u64 o2, .int .u64 o3]))
    (cL : ∀ W' : World, Below W.heap.size W W' → Calls Tryd.prog 14 #[.pointer (some ⟨b + 6, 0, none⟩), .string a, .agg #[.int .u64 k0, .int .u64 k1, .int .u64 k2, .int .u64 k3]] W' fun e w' => e = .returned (.tuple #[.agg #[.int .u64 p0, .int .u64 p1, .int .u64 p2, .int .u64 p3], .int .i64 0]) ∧ Below W'.heap.size W' w') :
    Calls Tryd.prog 21 #[.pointer (some ⟨b + 6, 0, none⟩), .string a, .agg #[.int .u64 k0, .int .u64 k1, .int .u64 k2, .int .u64 k3], .agg #[.int .u64 v0, .int .u64 v1, .int .u64 v2, .int .u64 v3]] W fun e w' =>
      e = .returned (.int .i64 0) ∧ Fr (fun k => k = b + 2 ∨ k = b + 6) W w' ∧ ∃ q g cap, stA w' b lg (.slice (some ⟨g, 0, none⟩) 1 cap) ∧ 1 ≤ cap ∧ W.heap.size ≤ g ∧ g < w'.heap.size ∧ w'.cell? ⟨g, 0, none⟩ = some (cloV q) ∧
        setB W.heap.size (b + 2) (n + 1) (D.put kl (.held (.agg #[.int .u64 v0, .int .u64 v1, .int .u64 v2, .int .u64 v3]))) #[.string a, .int .u64 k0, .int .u64 k1, .int .u64 k2, .int .u64 k3] #[.int .u64 o0, .int .u64 o1, .int .u64 o2, .int .u64 o3] (Maps.has D kl) q w' := by
  have hlt := hst.lt
  have hmb := hown.lt
  have cL2 : ∀ x1 x2, Calls Tryd.prog 14 #[.pointer (some ⟨b + 6, 0, none⟩), .string a, .agg #[.int .u64 k0, .int .u64 k1, .int .u64 k2, .int .u64 k3]] ((W.alloc x1).alloc x2) fun e w' => e = .returned (.tuple #[.agg #[.int .u64 p0, .int .u64 p1, .int .u64 p2, .int .u64 p3], .int .i64 0]) ∧ Below ((W.alloc x1).alloc x2).heap.size ((W.alloc x1).alloc x2) w' := fun x1 x2 => cL _ (((Below.refl _ W).alloc (Nat.le_refl _) _).alloc (by simp) _)
  clear cL
  go_enter Tryd.func21, Tryd.ntmps21
  go_wp2_with (go_at_call 14; refine (cL2 _ _).mono ?_; rintro e wa ⟨rfl, hb_wa⟩; have hc_wa := (bcell hb_wa).1; have hf_wa := (bcell hb_wa).2; have hz_wa : _ ≤ wa.heap.size := hb_wa.size; (try simp only [World.size_alloc, World.heap_drewN, World.size_setCell, heap_drew] at hc_wa hf_wa hz_wa); have hz_wa_W_0 : W.heap.size < wa.heap.size := (by omega); have hz_wa_W_1 : W.heap.size + 1 < wa.heap.size := (by omega))
  obtain ⟨i0, hi, hz0, hz1, hz2⟩ := info_parts infoF
  have bW : Below W.heap.size W (wa.alloc (.cells #[.int .u64 p0, .int .u64 p1, .int .u64 p2, .int .u64 p3] 25)) :=
    ((((Below.refl _ W).alloc (Nat.le_refl _) _).alloc (by simp) _).trans (hb_wa.mono (by simp; omega))).alloc (by omega) _
  have kb : (wa.alloc (.cells #[.int .u64 p0, .int .u64 p1, .int .u64 p2, .int .u64 p3] 25)).heap[W.heap.size]? = some (.cells #[.int .u64 k0, .int .u64 k1, .int .u64 k2, .int .u64 k3] 25 (0, 0)) :=
    (Below.heap_alloc _ _ _ (by omega)).trans ((hb_wa.block _ (by simp; try omega)).trans ((Below.heap_alloc _ _ _ (by simp; try omega)).trans (heap_new rfl)))
  have vb : (wa.alloc (.cells #[.int .u64 p0, .int .u64 p1, .int .u64 p2, .int .u64 p3] 25)).heap[W.heap.size + 1]? = some (.cells #[.int .u64 v0, .int .u64 v1, .int .u64 v2, .int .u64 v3] 25 (0, 0)) :=
    (Below.heap_alloc _ _ _ (by omega)).trans ((hb_wa.block _ (by simp; try omega)).trans (heap_new (by simp)))
  have hW1s : W.heap.size + 2 ≤ (wa.alloc (.cells #[.int .u64 p0, .int .u64 p1, .int .u64 p2, .int .u64 p3] 25)).heap.size := by simp; omega
  clear hc_wa hf_wa hb_wa hz_wa cL2
  generalize wa.alloc (.cells #[.int .u64 p0, .int .u64 p1, .int .u64 p2, .int .u64 p3] 25) = W1 at *
  have hst1 : stA W1 b lg (.slice none 0 0) := (bW.block _ hlt).trans hst
  have hown1 := owns_of hown (bW.block _ hmb)
  have hN1 := bW.size
  refine wp_flowU (σ := SvS) (fun k => ([0, 0, 0, 0, 0, 1, 1, 1, 1, 1, 1, 1, 1, 2, 2, 2, 1, 1, 4] : List Nat).getD k 1)
    (svR W1 b (b + 2) lg (.slice none 0 0) (fun w => w.ownsMap Tryd.prog 83 heldR (b + 2) n D) (setB W1.heap.size (b + 2) (n + 1) (D.put kl (.held (.agg #[.int .u64 v0, .int .u64 v1, .int .u64 v2, .int .u64 v3]))) #[.string a, .int .u64 k0, .int .u64 k1, .int .u64 k2, .int .u64 k3] #[.int .u64 o0, .int .u64 o1, .int .u64 o2, .int .u64 o3] (Maps.has D kl)))
    (fun s => s.st ≤ 3) ⟨0, 0, 0, 0⟩ ⟨Fr.drew (Fr.refl _ _), hst1, hown1, fun h => (by cases h), fun h => (by cases h)⟩ (by decide) (by kernel_rfl) (by kernel_rfl) ?_
  refine flowU_late (.pointer (some ⟨b + 6, 0, none⟩)) rfl rfl (fun s0 w' hC hR => ?_) (fun K hK => ?_)
  focus (go_simp; done)
  (go_simp; refine hK _ ?_; clear hK K)
  refine flowU_late (.pointer (some ⟨b + 6, 0, none⟩)) rfl rfl (fun s0 w' hC hR => ?_) (fun K hK => ?_)
  focus (go_simp; done)
  (go_simp; refine hK _ ?_; clear hK K)
  refine flowU_late (.pointer (some ⟨b + 6, 0, none⟩)) rfl rfl (fun s0 w' hC hR => ?_) (fun K hK => ?_)
  focus (go_simp; done)
  (go_simp; refine hK _ ?_; clear hK K)
  refine flowU_late (.pointer (some ⟨b + 6, 7, none⟩)) rfl rfl (fun s0 w' hC hR => ?_) (fun K hK => ?_)
  focus (go_simp; done)
  (go_simp; refine hK _ ?_; clear hK K)
  refine flowU_late (.slice none 0 0) rfl rfl (fun s0 w' hC hR => ?_) (fun K hK => ?_)
  focus (have hq := hR.st; rw [if_pos hC] at hq; obtain ⟨_, _, d2, _, _, _, _, d7, _⟩ := hq.cells; clear hq hR; go_simp; done)
  (go_simp; refine hK _ ?_; clear hK K)
  refine flowU_read (.pointer (some ⟨b + 6, 0, none⟩)) rfl rfl (fun w' hR => ?_) (fun K hK => ?_)
  focus (go_simp; done)
  (go_simp; refine hK _ ?_; clear hK K)
  refine flowU_read (.pointer (some ⟨b + 6, 0, none⟩)) rfl rfl (fun w' hR => ?_) (fun K hK => ?_)
  focus (go_simp; done)
  (go_simp; refine hK _ ?_; clear hK K)
  refine flowU_read (.pointer (some ⟨b + 6, 2, none⟩)) rfl rfl (fun w' hR => ?_) (fun K hK => ?_)
  focus (go_simp; done)
  (go_simp; refine hK _ ?_; clear hK K)
  refine flowU_read (.map (some (b + 2))) rfl rfl (fun w' hR => ?_) (fun K hK => ?_)
  focus (have hq := hR.st; rw [if_pos (by decide)] at hq; obtain ⟨_, _, d2, _, _, _, _, d7, _⟩ := hq.cells; clear hq hR; go_simp; done)
  (go_simp; refine hK _ ?_; clear hK K)
  refine flowU_read (.string a) rfl rfl (fun w' hR => ?_) (fun K hK => ?_)
  focus (go_simp; done)
  (go_simp; refine hK _ ?_; clear hK K)
  refine flowU_read (.agg #[.int .u64 k0, .int .u64 k1, .int .u64 k2, .int .u64 k3]) rfl rfl (fun w' hR => ?_) (fun K hK => ?_)
  focus (have hq := (hR.fr.block W.heap.size (by omega) (by omega)).trans kb; obtain ⟨x0, x1, x2, x3⟩ := cells4w hq; clear hq hR; go_simp; done)
  (go_simp; refine hK _ ?_; clear hK K)
  refine flowU_read (.agg #[.string a, .int .u64 k0, .int .u64 k1, .int .u64 k2, .int .u64 k3]) rfl rfl (fun w' hR => ?_) (fun K hK => ?_)
  focus (go_simp; done)
  (go_simp; refine hK _ ?_; clear hK K)
  refine flowU_read (.agg #[.int .u64 v0, .int .u64 v1, .int .u64 v2, .int .u64 v3]) rfl rfl (fun w' hR => ?_) (fun K hK => ?_)
  focus (have hq := (hR.fr.block (W.heap.size + 1) (by omega) (by omega)).trans vb; obtain ⟨x0, x1, x2, x3⟩ := cells4w hq; clear hq hR; go_simp; done)
  (go_simp; refine hK _ ?_; clear hK K)
  refine flowU_step svP1 (by decide) rfl ⟨cloV 0, _, 0, rfl, rfl⟩ (fun w' hR => ?_) (fun _ _ v s2 h => (by obtain ⟨q, _, rfl⟩ := h; exact (by decide : (1 : Nat) ≤ 3))) (fun K hK v s2 hs2 => ?_)
  focus
    have hm : w'.ownsMap Tryd.prog 83 heldR (b + 2) n D := hR.clo
    go_simp
    refine (set_any hm (by omega) a k0 k1 k2 k3 v0 v1 v2 v3 o0 o1 o2 o3 hkey hv).mono ?_
    rintro e w2 ⟨rfl, ho, hg, h1, h2, h3, h4⟩
    have hst' := hR.st
    have hlt' := (Array.getElem?_eq_some_iff.1 (show w'.heap[b + 6]? = _ from hst')).1
    refine ⟨_, rfl, ⟨1, w'.heap.size, 0, 0⟩, ⟨_, rfl, rfl⟩, ?_, ?_, ?_, fun h => (by cases h), fun h => (by simp at h)⟩
    · exact hR.fr.trans ⟨hg.os, hg.tape, hg.output, hg.size, fun k hk hT => hg.block k hk (fun e => hT (.inl (by simpa using e)))⟩
    · exact (hg.block (b + 6) hlt' (by simp)).trans hst'
    · exact ⟨ho, hR.fr.size, h1, h2, h3, h4⟩
  obtain ⟨q, rfl, rfl⟩ := hs2
  (go_simp; refine hK _ _ ?_; clear hK K)
  refine flowU_step (svP2 q) (by decide) rfl ⟨.slice (some ⟨0, 0, none⟩) 1 1, _, 0, rfl, rfl⟩ (fun w' hR => ?_) (fun _ _ v s2 h => (by obtain ⟨g, _, rfl⟩ := h; exact (by decide : (2 : Nat) ≤ 3))) (fun K hK v s2 hs2 => ?_)
  focus
    have hB := hR.clo
    rw [if_neg (by simp)] at hB
    have hst' := hR.st
    have hlt' := (Array.getElem?_eq_some_iff.1 (show w'.heap[b + 6]? = _ from hst')).1
    go_simp
    refine ⟨⟨2, q, w'.heap.size, 0⟩, ⟨_, rfl, rfl⟩, hR.fr.alloc _, (Below.heap_alloc _ _ _ hlt').trans hst', ?_, fun _ => ⟨hR.fr.size, heap_new rfl⟩, fun h => (by simp at h)⟩
    exact hB.below ((Below.refl _ w').alloc (Nat.le_refl _) _)
  obtain ⟨g, rfl, rfl⟩ := hs2
  (go_simp; refine hK _ _ ?_; clear hK K)
  refine flowU_step (svP3 q) (by decide) rfl ⟨.slice (some ⟨0, 0, none⟩) 1 0, _, 0, 0, rfl, rfl⟩ (fun w' hR => ?_) (fun _ _ v s2 h => (by obtain ⟨g, cap, _, rfl⟩ := h; exact (by decide : (3 : Nat) ≤ 3))) (fun K hK v s2 hs2 => ?_)
  focus
    have hB := hR.clo
    rw [if_neg (by simp)] at hB
    have hst' := hR.st
    have hlt' := (Array.getElem?_eq_some_iff.1 (show w'.heap[b + 6]? = _ from hst')).1
    obtain ⟨hg1, hg2⟩ := hR.one rfl
    have hgc : w'.cell? ⟨g, 0, none⟩ = some (cloV q) := by
      have hg3 : w'.heap[g]? = _ := hg2
      simp [World.cell?, hg3]
    obtain ⟨v', w2, hr, hown', hgrow, _, hloc⟩ := run_append_own_at (P := Tryd.prog) w' W1.heap.size 71 71 1 i0 .nilFunc 1 8 Tryd.underlying71 hi hz0 hz1 hz2 rfl (by decide) (.slice none 0 0) 0 [] (World.ownsRow_nil _ _ _ _) ⟨g, 0, none⟩ 1 1 [cloV q] rfl
      (fun j u hj => by
        cases j with
        | zero => simp at hj; subst hj; simpa [Addr.add] using hgc
        | succ j => simp at hj) (by simp [Value.oneCell', cloV]) (by unfold maxLen; omega) (by omega) hR.fr.size
    obtain ⟨g', cap', rfl⟩ : ∃ g' cap', v' = .slice (some ⟨g', 0, none⟩) 1 cap' := by
      rcases hown'.2 with ⟨_, h0⟩ | ⟨g', cap', cur, h0, _⟩
      · simp at h0
      · exact ⟨g', cap', h0⟩
    rw [append_exec (P := Tryd.prog) rfl rfl rfl hr]
    have hgr : w'.grownBy w2 none := hgrow
    refine ⟨⟨3, q, g', cap'⟩, ⟨_, _, rfl, rfl⟩, ?_, ?_, ?_, fun h => (by cases h), fun _ => ?_⟩
    · exact hR.fr.trans ⟨hgr.os, hgr.tape, hgr.output, hgr.size, fun k hk _ => hgr.block k hk (by simp)⟩
    · exact (hgr.block _ hlt' (by simp)).trans hst'
    · exact hB.kept (fun _ => False) (fun _ h => h.elim) fun k hk _ => hgr.block k hk (by simp)
    · rcases hown'.2 with ⟨h0, _⟩ | ⟨g2, cap2, cur, h0, hb2, hcur, hn2, hm2, _⟩
      · cases h0
      · cases h0
        exact ⟨hb2, (Array.getElem?_eq_some_iff.1 hcur).1, hn2, hm2, hown'.cellAt 0 (by decide)⟩
  obtain ⟨g2, cap2, rfl, rfl⟩ := hs2
  (go_simp; refine hK _ _ ?_; clear hK K)
  refine flowU_read (.pointer (some ⟨b + 6, 0, none⟩)) rfl rfl (fun w' hR => ?_) (fun K hK => ?_)
  focus (go_simp; done)
  (go_simp; refine hK _ ?_; clear hK K)
  refine flowU_read (.pointer (some ⟨b + 6, 7, none⟩)) rfl rfl (fun w' hR => ?_) (fun K hK => ?_)
  focus (go_simp; done)
  (go_simp; refine hK _ ?_; clear hK K)
  refine flowU_step (fun v s => v = undef ∧ s = ⟨4, q, g2, cap2⟩) (by decide) rfl ⟨undef, _, rfl, rfl⟩ (fun w' hR => ?_) (fun h => absurd rfl h) (fun K hK v s2 hs2 => ?_)
  focus
    have hst' := hR.st
    rw [if_pos (by simp)] at hst'
    have hlt' := (Array.getElem?_eq_some_iff.1 (show w'.heap[b + 6]? = _ from hst')).1
    obtain ⟨_, _, _, _, _, _, _, d7, ff⟩ := hst'.cells
    have f7 := ff 7
    go_simp
    have hB := hR.clo
    rw [if_neg (by simp)] at hB
    obtain ⟨r1, r2, r3, r4, r5⟩ := hR.row (Nat.le_refl 3)
    dsimp only at r1 r2 r3 r4 r5
    have hlt2 : b + 6 < W1.heap.size := (Array.getElem?_eq_some_iff.1 (show W1.heap[b + 6]? = _ from hst1)).1
    refine ⟨hR.fr.setCell (.inl (.inr rfl)) _, hst'.set _, ?_, fun h => (by cases h), fun _ => ⟨r1, ?_, r3, r4, ?_⟩⟩
    · exact hB.kept (fun k => k = b + 6) (fun k hk => ⟨by omega, by omega⟩) fun k hk hne => heap_set_ne hne
    · rw [World.size_setCell]
      exact r2
    · exact (World.cell?_of_block (a := ⟨g2, 0, none⟩) (heap_set_ne (show g2 ≠ b + 6 by omega))).trans r5
  obtain ⟨rfl, rfl⟩ := hs2
  (go_simp; refine hK _ _ ?_; clear hK K)
  refine flowU_nil (fun w' hR => ?_)
  go_wp2
  go_ret
  obtain ⟨r1, r2, r3, r4, r5⟩ := hR.row (by show 3 ≤ 4; omega)
  dsimp only at r1 r2 r3 r4 r5
  have hB := hR.clo
  rw [if_neg (by simp)] at hB
  refine ⟨rfl, ((Fr.refl _ W).below bW).trans hR.fr, q, g2, cap2, hR.st, r3, by omega, r2, r5, ⟨hB.own, Nat.le_trans hN1 hB.le, hB.bm, hB.bs, hB.bw, hB.bh⟩⟩
end Go.Proofs.YtcdjdnbdblpofaaDoor
