/-
  Save and SaveBrief: their contracts. Conditions: the state is one; what is known is right.
-/
import Derived.Test.YtcdjdnbdblpofaaDoorPL27
namespace Go.Proofs.YtcdjdnbdblpofaaDoor
open Go.RowKit Go.Maps
attribute [local go_sem] leftBy leaves
set_option linter.unusedSimpArgs false
set_option linter.unusedVariables false

def saPB (qs : Nat) (v : Value) (s : Option (Nat × PuS)) : Prop := ∃ g, v = .slice (some ⟨g, 0, none⟩) 1 1 ∧ s = some (qs, ⟨1, g, undef⟩)
def saPA (qs n g : Nat) (v : Value) (s : Option (Nat × PuS)) : Prop := ∃ q cap, v = .slice (some ⟨q, 0, none⟩) n cap ∧ s = some (qs, ⟨2, g, .slice (some ⟨q, 0, none⟩) n cap⟩)
def saPC (qs g : Nat) (u : Value) (v : Value) (s : Option (Nat × PuS)) : Prop := v = undef ∧ s = some (qs, ⟨3, g, u⟩)
theorem setQ.back {W1 w w' : World} {mb N : Nat} {p : ByteArray × Nat} {g : ByteArray × Nat → Option Nat} {v q : Nat} (hR : Fr (fun _ => False) W1 w) (h : setQ w mb N p g v q w') : setQ W1 mb N p g v q w' :=
  ⟨(hR.mono fun _ h => h.elim).trans ⟨h.fr.os, h.fr.tape, h.fr.output, h.fr.size, h.fr.block⟩, h.map, Nat.le_trans hR.size h.q0, h.bm, h.bs, h.bw, h.bh⟩


section
variable {W : World} {F : Nat → Prop} {b N : Nat} {L : List Kw} {R : List Chg}

set_option maxRecDepth 100000 in
set_option maxHeartbeats 16000000 in
theorem SaveBrief_S (h : SRep W F b N L R) {a : ByteArray} {k : Nat} (hp : okP (a, k)) (v : Nat) (hRl : R.length ≤ 1000000) (hN : N ≤ 1000000) :
    Calls Tryd.prog 22 #[ptr (b + 6), .string a, W4 k, W4 v] W (muPost W F b (N + 1) L (.brief (a, k) v :: R) (.int .i64 0)) := by
  have hfl := h.flt
  obtain ⟨un, hC, xs, hrow, hunF, hxs⟩ := h
  obtain ⟨lg, s1, hrl, hlgF⟩ := hC.st
  obtain ⟨i0, hi, hz0, hz1, hz2⟩ := info_parts infoF
  have hxl := Lib.hid hxs.length
  have hxl2 : xs.length ≤ 1000000 := by rw [hxl.out]; exact hRl
  have hlt := s1.lt
  have b1 : Below W.heap.size W ((W.alloc (.cells #[.int .u64 (lb k 0 : Nat), .int .u64 (lb k 1 : Nat), .int .u64 (lb k 2 : Nat), .int .u64 (lb k 3 : Nat)] 25)).alloc (.cells #[.int .u64 (lb v 0 : Nat), .int .u64 (lb v 1 : Nat), .int .u64 (lb v 2 : Nat), .int .u64 (lb v 3 : Nat)] 25)) := ((Below.refl _ W).alloc (Nat.le_refl _) _).alloc (by simp) _
  have k0 : ((W.alloc (.cells #[.int .u64 (lb k 0 : Nat), .int .u64 (lb k 1 : Nat), .int .u64 (lb k 2 : Nat), .int .u64 (lb k 3 : Nat)] 25)).alloc (.cells #[.int .u64 (lb v 0 : Nat), .int .u64 (lb v 1 : Nat), .int .u64 (lb v 2 : Nat), .int .u64 (lb v 3 : Nat)] 25)).heap[W.heap.size]? = some (.cells #[.int .u64 (lb k 0 : Nat), .int .u64 (lb k 1 : Nat), .int .u64 (lb k 2 : Nat), .int .u64 (lb k 3 : Nat)] 25 (0, 0)) := (Below.heap_alloc _ _ _ (by simp)).trans (heap_new rfl)
  have k1 : ((W.alloc (.cells #[.int .u64 (lb k 0 : Nat), .int .u64 (lb k 1 : Nat), .int .u64 (lb k 2 : Nat), .int .u64 (lb k 3 : Nat)] 25)).alloc (.cells #[.int .u64 (lb v 0 : Nat), .int .u64 (lb v 1 : Nat), .int .u64 (lb v 2 : Nat), .int .u64 (lb v 3 : Nat)] 25)).heap[W.heap.size + 1]? = some (.cells #[.int .u64 (lb v 0 : Nat), .int .u64 (lb v 1 : Nat), .int .u64 (lb v 2 : Nat), .int .u64 (lb v 3 : Nat)] 25 (0, 0)) := heap_new (by simp)
  have z1 : W.heap.size + 2 ≤ ((W.alloc (.cells #[.int .u64 (lb k 0 : Nat), .int .u64 (lb k 1 : Nat), .int .u64 (lb k 2 : Nat), .int .u64 (lb k 3 : Nat)] 25)).alloc (.cells #[.int .u64 (lb v 0 : Nat), .int .u64 (lb v 1 : Nat), .int .u64 (lb v 2 : Nat), .int .u64 (lb v 3 : Nat)] 25)).heap.size := by simp
  unfold ptr
  go_enter Tryd.func22, Tryd.ntmps22
  go_wp2
  generalize (W.alloc (.cells #[.int .u64 (lb k 0 : Nat), .int .u64 (lb k 1 : Nat), .int .u64 (lb k 2 : Nat), .int .u64 (lb k 3 : Nat)] 25)).alloc (.cells #[.int .u64 (lb v 0 : Nat), .int .u64 (lb v 1 : Nat), .int .u64 (lb v 2 : Nat), .int .u64 (lb v 3 : Nat)] 25) = W1 at *
  have s1' : stA W1 b lg un := (b1.block _ hlt).trans s1
  obtain ⟨es4, cl4, hm4⟩ := hC.m3.isMap
  have m0 := hC.m3.at_block (b1.block _ (by omega))
  have hs1 := Lib.hid fun (w2 : World) (hf : Fr (fun j => j = b + 3) W1 w2) => show stA w2 b lg un from (hf.block _ (by omega) (by omega)).trans s1'
  have hr1 := Lib.hid fun (w2 : World) (hf : Fr (fun j => j = b + 3) W1 w2) => show w2.ownsRow 0 1 1 un xs.length xs by
    rw [hxl.out]
    refine ownsRow_same hrow fun k hk => ?_
    obtain ⟨cs, h3⟩ := row_block hrow hk
    have := hfl k (hunF k hk)
    exact (hf.block k (by omega) (map_ne h3 hm4)).trans (b1.block k this)
  obtain ⟨x0, x1, x2, x3⟩ := cells4w k0
  obtain ⟨y0, y1, y2, y3⟩ := cells4w k1
  obtain ⟨_, _, e2, e3, _⟩ := s1'.cells
  refine wp_flowU (fun k => ([0, 0, 0, 0, 0, 1, 1, 1, 1, 1, 1, 1, 1, 2, 2, 2, 1, 1, 4] : List Nat).getD k 1) (saR W1 b (b + 3) N (a, k) (brF R) v lg un xs) (saC) (none) (Fr.drew (Fr.refl _ _)) trivial (by kernel_rfl) (by kernel_rfl) ?_
  (refine flowU_lateE rfl rfl (fun K hK => ?_); apply Exists.intro; apply And.intro; (focus (intro s0 w' hC hR; (first | (have hz := saR_late hC hR s1') | (have hR2 : Fr (fun _ => False) W1 w' := hR; have u0 := hR2.cell x0 id (by omega); have u1 := hR2.cell x1 id (by omega); have u2 := hR2.cell x2 id (by omega); have u3 := hR2.cell x3 id (by omega); have t0 := hR2.cell y0 id (by omega); have t1 := hR2.cell y1 id (by omega); have t2 := hR2.cell y2 id (by omega); have t3 := hR2.cell y3 id (by omega); have z2 := hR2.cell e2 id (by omega); have z3 := hR2.cell e3 id (by omega); clear hR2) | skip); clear hR; go_simp; (try go_bits); exact rfl)); go_simp; (try go_bits); refine hK _ ?_; clear hK K)
  (refine flowU_lateE rfl rfl (fun K hK => ?_); apply Exists.intro; apply And.intro; (focus (intro s0 w' hC hR; (first | (have hz := saR_late hC hR s1') | (have hR2 : Fr (fun _ => False) W1 w' := hR; have u0 := hR2.cell x0 id (by omega); have u1 := hR2.cell x1 id (by omega); have u2 := hR2.cell x2 id (by omega); have u3 := hR2.cell x3 id (by omega); have t0 := hR2.cell y0 id (by omega); have t1 := hR2.cell y1 id (by omega); have t2 := hR2.cell y2 id (by omega); have t3 := hR2.cell y3 id (by omega); have z2 := hR2.cell e2 id (by omega); have z3 := hR2.cell e3 id (by omega); clear hR2) | skip); clear hR; go_simp; (try go_bits); exact rfl)); go_simp; (try go_bits); refine hK _ ?_; clear hK K)
  (refine flowU_lateE rfl rfl (fun K hK => ?_); apply Exists.intro; apply And.intro; (focus (intro s0 w' hC hR; (first | (have hz := saR_late hC hR s1') | (have hR2 : Fr (fun _ => False) W1 w' := hR; have u0 := hR2.cell x0 id (by omega); have u1 := hR2.cell x1 id (by omega); have u2 := hR2.cell x2 id (by omega); have u3 := hR2.cell x3 id (by omega); have t0 := hR2.cell y0 id (by omega); have t1 := hR2.cell y1 id (by omega); have t2 := hR2.cell y2 id (by omega); have t3 := hR2.cell y3 id (by omega); have z2 := hR2.cell e2 id (by omega); have z3 := hR2.cell e3 id (by omega); clear hR2) | skip); clear hR; go_simp; (try go_bits); exact rfl)); go_simp; (try go_bits); refine hK _ ?_; clear hK K)
  (refine flowU_lateE rfl rfl (fun K hK => ?_); apply Exists.intro; apply And.intro; (focus (intro s0 w' hC hR; (first | (have hz := saR_late hC hR s1') | (have hR2 : Fr (fun _ => False) W1 w' := hR; have u0 := hR2.cell x0 id (by omega); have u1 := hR2.cell x1 id (by omega); have u2 := hR2.cell x2 id (by omega); have u3 := hR2.cell x3 id (by omega); have t0 := hR2.cell y0 id (by omega); have t1 := hR2.cell y1 id (by omega); have t2 := hR2.cell y2 id (by omega); have t3 := hR2.cell y3 id (by omega); have z2 := hR2.cell e2 id (by omega); have z3 := hR2.cell e3 id (by omega); clear hR2) | skip); clear hR; go_simp; (try go_bits); exact rfl)); go_simp; (try go_bits); refine hK _ ?_; clear hK K)
  (refine flowU_lateE rfl rfl (fun K hK => ?_); apply Exists.intro; apply And.intro; (focus (intro s0 w' hC hR; (first | (have hz := saR_late hC hR s1') | (have hR2 : Fr (fun _ => False) W1 w' := hR; have u0 := hR2.cell x0 id (by omega); have u1 := hR2.cell x1 id (by omega); have u2 := hR2.cell x2 id (by omega); have u3 := hR2.cell x3 id (by omega); have t0 := hR2.cell y0 id (by omega); have t1 := hR2.cell y1 id (by omega); have t2 := hR2.cell y2 id (by omega); have t3 := hR2.cell y3 id (by omega); have z2 := hR2.cell e2 id (by omega); have z3 := hR2.cell e3 id (by omega); clear hR2) | skip); clear hR; go_simp; (try go_bits); exact rfl)); go_simp; (try go_bits); refine hK _ ?_; clear hK K)
  (refine flowU_readE rfl rfl (fun K hK => ?_); apply Exists.intro; apply And.intro; (focus (intro w' hR; (first | (have hz := saR_late hC hR s1') | (have hR2 : Fr (fun _ => False) W1 w' := hR; have u0 := hR2.cell x0 id (by omega); have u1 := hR2.cell x1 id (by omega); have u2 := hR2.cell x2 id (by omega); have u3 := hR2.cell x3 id (by omega); have t0 := hR2.cell y0 id (by omega); have t1 := hR2.cell y1 id (by omega); have t2 := hR2.cell y2 id (by omega); have t3 := hR2.cell y3 id (by omega); have z2 := hR2.cell e2 id (by omega); have z3 := hR2.cell e3 id (by omega); clear hR2) | skip); clear hR; go_simp; (try go_bits); exact rfl)); go_simp; (try go_bits); refine hK _ ?_; clear hK K)
  (refine flowU_readE rfl rfl (fun K hK => ?_); apply Exists.intro; apply And.intro; (focus (intro w' hR; (first | (have hz := saR_late hC hR s1') | (have hR2 : Fr (fun _ => False) W1 w' := hR; have u0 := hR2.cell x0 id (by omega); have u1 := hR2.cell x1 id (by omega); have u2 := hR2.cell x2 id (by omega); have u3 := hR2.cell x3 id (by omega); have t0 := hR2.cell y0 id (by omega); have t1 := hR2.cell y1 id (by omega); have t2 := hR2.cell y2 id (by omega); have t3 := hR2.cell y3 id (by omega); have z2 := hR2.cell e2 id (by omega); have z3 := hR2.cell e3 id (by omega); clear hR2) | skip); clear hR; go_simp; (try go_bits); exact rfl)); go_simp; (try go_bits); refine hK _ ?_; clear hK K)
  (refine flowU_readE rfl rfl (fun K hK => ?_); apply Exists.intro; apply And.intro; (focus (intro w' hR; (first | (have hz := saR_late hC hR s1') | (have hR2 : Fr (fun _ => False) W1 w' := hR; have u0 := hR2.cell x0 id (by omega); have u1 := hR2.cell x1 id (by omega); have u2 := hR2.cell x2 id (by omega); have u3 := hR2.cell x3 id (by omega); have t0 := hR2.cell y0 id (by omega); have t1 := hR2.cell y1 id (by omega); have t2 := hR2.cell y2 id (by omega); have t3 := hR2.cell y3 id (by omega); have z2 := hR2.cell e2 id (by omega); have z3 := hR2.cell e3 id (by omega); clear hR2) | skip); clear hR; go_simp; (try go_bits); exact rfl)); go_simp; (try go_bits); refine hK _ ?_; clear hK K)
  (refine flowU_readE rfl rfl (fun K hK => ?_); apply Exists.intro; apply And.intro; (focus (intro w' hR; (first | (have hz := saR_late hC hR s1') | (have hR2 : Fr (fun _ => False) W1 w' := hR; have u0 := hR2.cell x0 id (by omega); have u1 := hR2.cell x1 id (by omega); have u2 := hR2.cell x2 id (by omega); have u3 := hR2.cell x3 id (by omega); have t0 := hR2.cell y0 id (by omega); have t1 := hR2.cell y1 id (by omega); have t2 := hR2.cell y2 id (by omega); have t3 := hR2.cell y3 id (by omega); have z2 := hR2.cell e2 id (by omega); have z3 := hR2.cell e3 id (by omega); clear hR2) | skip); clear hR; go_simp; (try go_bits); exact rfl)); go_simp; (try go_bits); refine hK _ ?_; clear hK K)
  (refine flowU_readE rfl rfl (fun K hK => ?_); apply Exists.intro; apply And.intro; (focus (intro w' hR; (first | (have hz := saR_late hC hR s1') | (have hR2 : Fr (fun _ => False) W1 w' := hR; have u0 := hR2.cell x0 id (by omega); have u1 := hR2.cell x1 id (by omega); have u2 := hR2.cell x2 id (by omega); have u3 := hR2.cell x3 id (by omega); have t0 := hR2.cell y0 id (by omega); have t1 := hR2.cell y1 id (by omega); have t2 := hR2.cell y2 id (by omega); have t3 := hR2.cell y3 id (by omega); have z2 := hR2.cell e2 id (by omega); have z3 := hR2.cell e3 id (by omega); clear hR2) | skip); clear hR; go_simp; (try go_bits); exact rfl)); go_simp; (try go_bits); refine hK _ ?_; clear hK K)
  (refine flowU_readE rfl rfl (fun K hK => ?_); apply Exists.intro; apply And.intro; (focus (intro w' hR; (first | (have hz := saR_late hC hR s1') | (have hR2 : Fr (fun _ => False) W1 w' := hR; have u0 := hR2.cell x0 id (by omega); have u1 := hR2.cell x1 id (by omega); have u2 := hR2.cell x2 id (by omega); have u3 := hR2.cell x3 id (by omega); have t0 := hR2.cell y0 id (by omega); have t1 := hR2.cell y1 id (by omega); have t2 := hR2.cell y2 id (by omega); have t3 := hR2.cell y3 id (by omega); have z2 := hR2.cell e2 id (by omega); have z3 := hR2.cell e3 id (by omega); clear hR2) | skip); clear hR; go_simp; (try go_bits); exact rfl)); go_simp; (try go_bits); refine hK _ ?_; clear hK K)
  (refine flowU_readE rfl rfl (fun K hK => ?_); apply Exists.intro; apply And.intro; (focus (intro w' hR; (first | (have hz := saR_late hC hR s1') | (have hR2 : Fr (fun _ => False) W1 w' := hR; have u0 := hR2.cell x0 id (by omega); have u1 := hR2.cell x1 id (by omega); have u2 := hR2.cell x2 id (by omega); have u3 := hR2.cell x3 id (by omega); have t0 := hR2.cell y0 id (by omega); have t1 := hR2.cell y1 id (by omega); have t2 := hR2.cell y2 id (by omega); have t3 := hR2.cell y3 id (by omega); have z2 := hR2.cell e2 id (by omega); have z3 := hR2.cell e3 id (by omega); clear hR2) | skip); clear hR; go_simp; (try go_bits); exact rfl)); go_simp; (try go_bits); refine hK _ ?_; clear hK K)
  (refine flowU_readE rfl rfl (fun K hK => ?_); apply Exists.intro; apply And.intro; (focus (intro w' hR; (first | (have hz := saR_late hC hR s1') | (have hR2 : Fr (fun _ => False) W1 w' := hR; have u0 := hR2.cell x0 id (by omega); have u1 := hR2.cell x1 id (by omega); have u2 := hR2.cell x2 id (by omega); have u3 := hR2.cell x3 id (by omega); have t0 := hR2.cell y0 id (by omega); have t1 := hR2.cell y1 id (by omega); have t2 := hR2.cell y2 id (by omega); have t3 := hR2.cell y3 id (by omega); have z2 := hR2.cell e2 id (by omega); have z3 := hR2.cell e3 id (by omega); clear hR2) | skip); clear hR; go_simp; (try go_bits); exact rfl)); go_simp; (try go_bits); refine hK _ ?_; clear hK K)
  refine flowU_step (fun v s => ∃ q, v = cloV q ∧ s = some (q, ⟨0, 0, undef⟩)) (by decide) rfl ⟨cloV 0, _, 0, rfl, rfl⟩ (fun w' hR => ?_) (fun _ _ v s2 h => (by obtain ⟨q, _, rfl⟩ := h; exact Nat.zero_le _)) (fun K hK v s2 hs2 => ?_)
  focus
    have hR : Fr (fun _ => False) W1 w' := hR
    have cS := set_mv (m0.at_block (hR.block _ (by omega) id)) hN (a, k) hp v
    unfold spW spV at cS
    dsimp only at cS
    go_simp
    refine cS.mono ?_
    rintro e w2 ⟨q, rfl, hq⟩
    have hQ := hq.back hR
    have hst2 := hs1.out w2 hQ.fr
    have hro2 := hr1.out w2 hQ.fr
    exact ⟨_, rfl, some (q, ⟨0, 0, undef⟩), ⟨q, rfl, rfl⟩, w2, hQ, hst2, hro2, Fr.refl _ _, hst2, fun _ => hro2, fun h => (by cases h), fun h => (by simp at h)⟩
  obtain ⟨qs, rfl, rfl⟩ := hs2
  (go_simp; refine hK _ _ ?_; clear hK K)
  refine flowU_step (saPB qs) (by decide) rfl ⟨.slice (some ⟨0, 0, none⟩) 1 1, _, 0, rfl, rfl⟩ (fun w' hR => ?_) (fun _ _ v s2 h => (by obtain ⟨g, _, rfl⟩ := h; exact (by decide : (1 : Nat) ≤ 2))) (fun K hK v s2 hs2 => ?_)
  focus
    obtain ⟨wm, hQ, hs0, hro0, hR⟩ := hR
    have hst' := hR.st
    have hlt' := (Array.getElem?_eq_some_iff.1 (show w'.heap[b + 6]? = _ from hst')).1
    have hfr := hR.fr
    have hro := hR.row (Nat.zero_le _)
    clear hR
    go_simp
    exact ⟨some (qs, ⟨1, w'.heap.size, undef⟩), ⟨_, rfl, rfl⟩, wm, hQ, hs0, hro0, hfr.alloc _, (Below.heap_alloc _ _ _ hlt').trans hst', fun _ => hro.alloc _, fun _ => ⟨hfr.size, heap_new rfl⟩, fun h => (by simp at h)⟩
  obtain ⟨g, rfl, rfl⟩ := hs2
  (go_simp; refine hK _ _ ?_; clear hK K)
  refine flowU_step (saPA qs (xs.length + 1) g) (by decide) rfl ⟨_, _, 0, 0, rfl, rfl⟩ (fun w' hR => ?_) (fun _ _ v s2 h => (by obtain ⟨_, _, _, rfl⟩ := h; exact (by decide : (2 : Nat) ≤ 2))) (fun K hK v s2 hs2 => ?_)
  focus
    obtain ⟨wm, hQ, hs0, hro0, hR⟩ := hR
    have hst' := hR.st
    have hlt' := (Array.getElem?_eq_some_iff.1 (show w'.heap[b + 6]? = _ from hst')).1
    obtain ⟨hg1, hg2⟩ := hR.one rfl
    have hro := hR.row (Nat.le_refl _)
    have hfr := hR.fr
    clear hR
    have hgc : w'.cell? ⟨g, 0, none⟩ = some (cloV qs) := by
      have hg3 : w'.heap[g]? = _ := hg2
      simp [World.cell?, hg3]
    obtain ⟨v', w2, hr, hown', hgrow, _, hloc⟩ := run_append_own_at (P := Tryd.prog) w' 0 71 71 1 i0 .nilFunc 1 8 Tryd.underlying71 hi hz0 hz1 hz2 rfl (by decide) un xs.length xs hro ⟨g, 0, none⟩ 1 1 [cloV qs] rfl
      (fun j u hj => by
        cases j with
        | zero => simp at hj; subst hj; simpa [Addr.add] using hgc
        | succ j => simp at hj) (by simp [Value.oneCell', cloV]) (by unfold maxLen; omega) (by omega) (Nat.zero_le _)
    rw [append_exec (P := Tryd.prog) rfl rfl rfl hr]
    have hne : un.ownBlock ≠ some (b + 6) := fun e => by
      obtain ⟨cs, h3⟩ := row_block hro e
      have h6 : w'.heap[b + 6]? = _ := hst'
      rw [h3] at h6
      injection h6 with h6
      injection h6 with _ h6
      exact absurd h6 (by decide)
    obtain ⟨q, cap, rfl⟩ : ∃ q cap, v' = .slice (some ⟨q, 0, none⟩) (xs.length + 1) cap := by
      rcases hown'.2 with ⟨_, h0⟩ | ⟨q, cap, cur, h0, _⟩
      · simp at h0
      · exact ⟨q, cap, h0⟩
    refine ⟨some (qs, ⟨2, g, _⟩), ⟨q, cap, rfl, rfl⟩, wm, hQ, hs0, hro0, hfr.trans ⟨hgrow.os, hgrow.tape, hgrow.output, hgrow.size, fun k hk hT => hgrow.block k hk fun e => hT (.inl e.symm)⟩, (hgrow.block _ hlt' (fun e => hne e.symm)).trans hst', fun h => (by simp at h), fun h => (by cases h), fun _ => ⟨hown', ?_⟩⟩
    rcases hloc with h | h
    · exact .inl h
    · exact .inr ⟨_, h, hfr.size⟩
  obtain ⟨q, cap, rfl, rfl⟩ := hs2
  (go_simp; refine hK _ _ ?_; clear hK K)
  (refine flowU_readE rfl rfl (fun K hK => ?_); apply Exists.intro; apply And.intro; (focus (intro w' hR; (first | (have hz := saR_late hC hR s1') | (have hR2 : Fr (fun _ => False) W1 w' := hR; have u0 := hR2.cell x0 id (by omega); have u1 := hR2.cell x1 id (by omega); have u2 := hR2.cell x2 id (by omega); have u3 := hR2.cell x3 id (by omega); have t0 := hR2.cell y0 id (by omega); have t1 := hR2.cell y1 id (by omega); have t2 := hR2.cell y2 id (by omega); have t3 := hR2.cell y3 id (by omega); have z2 := hR2.cell e2 id (by omega); have z3 := hR2.cell e3 id (by omega); clear hR2) | skip); clear hR; go_simp; (try go_bits); exact rfl)); go_simp; (try go_bits); refine hK _ ?_; clear hK K)
  (refine flowU_readE rfl rfl (fun K hK => ?_); apply Exists.intro; apply And.intro; (focus (intro w' hR; (first | (have hz := saR_late hC hR s1') | (have hR2 : Fr (fun _ => False) W1 w' := hR; have u0 := hR2.cell x0 id (by omega); have u1 := hR2.cell x1 id (by omega); have u2 := hR2.cell x2 id (by omega); have u3 := hR2.cell x3 id (by omega); have t0 := hR2.cell y0 id (by omega); have t1 := hR2.cell y1 id (by omega); have t2 := hR2.cell y2 id (by omega); have t3 := hR2.cell y3 id (by omega); have z2 := hR2.cell e2 id (by omega); have z3 := hR2.cell e3 id (by omega); clear hR2) | skip); clear hR; go_simp; (try go_bits); exact rfl)); go_simp; (try go_bits); refine hK _ ?_; clear hK K)
  refine flowU_step (saPC qs g (Value.slice (some ⟨q, 0, none⟩) (xs.length + 1) cap)) (by decide) rfl ⟨undef, _, rfl, rfl⟩ (fun w' hR => ?_) (fun h => absurd rfl h) (fun K hK v s2 hs2 => ?_)
  focus
    obtain ⟨wm, hQ, hs0, hro0, hR⟩ := hR
    have hst' := hR.st
    rw [if_pos (by simp)] at hst'
    have hlt' := (Array.getElem?_eq_some_iff.1 (show w'.heap[b + 6]? = _ from hst')).1
    obtain ⟨_, _, _, _, _, _, _, d7, ff⟩ := hst'.cells
    have f7 := ff 7
    obtain ⟨n1, n2⟩ := hR.new (Nat.le_refl _)
    have hfr := hR.fr
    clear hR ff
    dsimp only at n1 n2
    have hne : ((Value.slice (some ⟨q, 0, none⟩) (xs.length + 1) cap)).ownBlock ≠ some (b + 6) := fun e => by
      obtain ⟨cs, h3⟩ := row_block n1 e
      have h6 : w'.heap[b + 6]? = _ := hst'
      rw [h3] at h6
      injection h6 with h6
      injection h6 with _ h6
      exact absurd h6 (by decide)
    go_simp
    exact ⟨some (qs, ⟨3, g, (Value.slice (some ⟨q, 0, none⟩) (xs.length + 1) cap)⟩), ⟨rfl, rfl⟩, wm, hQ, hs0, hro0, hfr.setCell (.inl (.inr rfl)) _, hst'.set _, fun h => (by simp at h), fun h => (by simp at h), fun _ => ⟨ownsRow_same n1 fun k hk => heap_set_ne (fun e => hne (e ▸ hk)), n2⟩⟩
  obtain ⟨rfl, rfl⟩ := hs2
  (go_simp; refine hK _ _ ?_; clear hK K)
  refine flowU_nil ?_
  intro X4 hR4
  obtain ⟨wm, hQ, s3, hrow3, hR4⟩ := hR4
  have szm := hQ.fr.size
  have bm : ∀ k, k < W.heap.size → k ≠ b + 3 → wm.heap[k]? = W.heap[k]? := fun k hk hn => (hQ.fr.block k (by omega) hn).trans (b1.block k hk)
  have f3 : Fr F W wm := ((Fr.refl _ W).below b1).trans ⟨hQ.fr.os, hQ.fr.tape, hQ.fr.output, hQ.fr.size, fun k hk hT => hQ.fr.block k hk (fun e => hT (by rw [e]; exact hC.fb 3 (by omega)))⟩
  have hC3 : CRep wm (fun k => F k ∨ (W.heap.size ≤ k ∧ k < wm.heap.size)) b (N + 1) L (.brief (a, k) v :: R) un := by
    have hj := fun j (h1 : j ≤ 6) (h2 : j ≠ 3) => bm (b + j) (by omega) (by omega)
    refine ⟨fun k hk => ?_, fun j hj => .inl (hC.fb j hj), ⟨lg, s3, ownsRow_same hrl fun k hk => ?_, fun k hk => .inl (hlgF k hk)⟩, (hC.m0.at_block (hj 0 (by omega) (by omega))).mono (by omega), (hC.m1.at_block (hj 1 (by omega) (by omega))).mono (by omega), (hC.m2.at_block (hj 2 (by omega) (by omega))).mono (by omega), ?_, (hC.m4.at_block (hj 4 (by omega) (by omega))).mono (by omega), (hC.m5.at_block (hj 5 (by omega) (by omega))).mono (by omega)⟩
    · rcases hk with hk | hk
      · have := hfl k hk
        omega
      · exact hk.2
    · obtain ⟨cs, h3⟩ := row_block hrl hk
      exact bm k (hfl k (hlgF k hk)) (map_ne h3 hm4)
    · refine hQ.map.ext fun j _ => ?_
      show _ = (brF (.brief (a, k) v :: R) j).map W4
      by_cases e : j = (a, k)
      · simp [brF, e]
      · simp [brF, e]
  have hx3 : unL wm (fun k => F k ∨ (W.heap.size ≤ k ∧ k < wm.heap.size)) b R xs := hxs.stays (fun q cs t ht hq he => (bm q (hfl q hq) (map_ne he hm4)).trans he) fun k hk => .inl hk
  have hqq : qs + 4 < wm.heap.size := (Array.getElem?_eq_some_iff.1 hQ.bh).1
  have hq0 := hQ.q0
  have hv3 : unAt wm (fun k => F k ∨ (W.heap.size ≤ k ∧ k < wm.heap.size)) b R (.brief (a, k) v) (cloV qs) :=
    ⟨qs + 4, qs + 3, qs, qs + 1, rfl, ⟨.inr ⟨by omega, by omega⟩, hQ.bh⟩, ⟨.inr ⟨by omega, by omega⟩, hQ.bw⟩, ⟨.inr ⟨by omega, by omega⟩, hQ.bm⟩, ⟨.inr ⟨by omega, by omega⟩, hQ.bs⟩⟩
  have hCb := hC.fb 6 (by omega)
  clear hC hxs hrow hrl hs1 hr1 hQ bm hm4
  have fr4 := hR4.fr
  have st4 := hR4.st
  rw [if_neg (by simp)] at st4
  dsimp only at st4
  obtain ⟨ro4, at4⟩ := hR4.new (by simp)
  clear hR4
  have sz4 := fr4.size
  have f4 : Fr F W X4 := f3.trans ⟨fr4.os, fr4.tape, fr4.output, fr4.size, fun k hk hT => fr4.block k hk (fun e => hT (by
    rcases e with e | e
    · exact hunF k e
    · rw [e]; exact hCb))⟩
  have fin := push_done (F' := fun k => F k ∨ (W.heap.size ≤ k ∧ k < X4.heap.size)) hC3 s3 hrow3 (fun k hk => .inl (hunF k hk)) hx3 hv3 fr4 st4 ro4 at4 (fun k hk => by
    rcases hk with hk | hk
    · exact .inl hk
    · exact .inr ⟨hk.1, Nat.lt_of_lt_of_le hk.2 sz4⟩) (fun k h1 h2 => .inr ⟨by omega, h2⟩) (fun k hk => by
    rcases hk with hk | hk
    · have := hfl k hk
      omega
    · exact hk.2)
  clear hC3 hrow3 hx3 hv3 ro4 st4 at4 fr4
  go_wp2
  go_ret
  exact ⟨rfl, _, fin, f4, fun k hk => .inl hk, fun k hk => hk.imp id (fun h => h.1)⟩

set_option maxRecDepth 100000 in
set_option maxHeartbeats 16000000 in
theorem Save_ok (h : SRep W F b N L R) (hW : 3 ≤ W.heap.size) (hT : KT W) (hL : ∀ K ∈ L, Kok W K) {a : ByteArray} {k : Nat} (hp : okP (a, k)) (v : Nat) (hRl : R.length ≤ 1000000) (hN : N ≤ 1000000) (hok : (loaN L R a k).2 = 0) :
    Calls Tryd.prog 21 #[ptr (b + 6), .string a, W4 k, W4 v] W (muPost W F b (N + 1) L (.save (a, k) v :: R) (.int .i64 0)) := by
  have hfl := h.flt
  have cL := fun o1 o2 => Load_all (h.below (((Below.refl _ W).alloc (Nat.le_refl _) o1).alloc (by simp) o2)) (by simp; omega) (hT.below (((Below.refl _ W).alloc (Nat.le_refl _) o1).alloc (by simp) o2) hW) (fun K hK => (hL K hK).below (((Below.refl _ W).alloc (Nat.le_refl _) o1).alloc (by simp) o2)) hp
  rw [hok] at cL
  generalize (loaN L R a k).1 = ov at *
  obtain ⟨un, hC, xs, hrow, hunF, hxs⟩ := h
  obtain ⟨lg, s1, hrl, hlgF⟩ := hC.st
  obtain ⟨i0, hi, hz0, hz1, hz2⟩ := info_parts infoF
  have hxl := Lib.hid hxs.length
  have hxl2 : xs.length ≤ 1000000 := by rw [hxl.out]; exact hRl
  have hlt := s1.lt
  unfold ptr at *
  go_enter Tryd.func21, Tryd.ntmps21
  go_wp2_with (go_at_call 14; refine (cL _ _).mono ?_; rintro e wa ⟨rfl, hb_wa⟩; have hc_wa := (bcell hb_wa).1; have hf_wa := (bcell hb_wa).2; have hz_wa : _ ≤ wa.heap.size := hb_wa.size; (try simp only [World.size_alloc, World.heap_drewN, World.size_setCell, heap_drew] at hc_wa hf_wa hz_wa); have hz_wa_W_0 : W.heap.size < wa.heap.size := (by omega); have hz_wa_W_1 : W.heap.size + 1 < wa.heap.size := (by omega))
  have b1 : Below W.heap.size W (wa.alloc (.cells #[.int .u64 (lb ov 0 : Nat), .int .u64 (lb ov 1 : Nat), .int .u64 (lb ov 2 : Nat), .int .u64 (lb ov 3 : Nat)] 25)) := ((((Below.refl _ W).alloc (Nat.le_refl _) _).alloc (by simp) _).trans (hb_wa.mono (by simp; omega))).alloc (by omega) _
  have k0 : (wa.alloc (.cells #[.int .u64 (lb ov 0 : Nat), .int .u64 (lb ov 1 : Nat), .int .u64 (lb ov 2 : Nat), .int .u64 (lb ov 3 : Nat)] 25)).heap[W.heap.size]? = some (.cells #[.int .u64 (lb k 0 : Nat), .int .u64 (lb k 1 : Nat), .int .u64 (lb k 2 : Nat), .int .u64 (lb k 3 : Nat)] 25 (0, 0)) := (Below.heap_alloc _ _ _ (by omega)).trans ((hb_wa.block _ (by simp; try omega)).trans ((Below.heap_alloc _ _ _ (by simp; try omega)).trans (heap_new rfl)))
  have k1 : (wa.alloc (.cells #[.int .u64 (lb ov 0 : Nat), .int .u64 (lb ov 1 : Nat), .int .u64 (lb ov 2 : Nat), .int .u64 (lb ov 3 : Nat)] 25)).heap[W.heap.size + 1]? = some (.cells #[.int .u64 (lb v 0 : Nat), .int .u64 (lb v 1 : Nat), .int .u64 (lb v 2 : Nat), .int .u64 (lb v 3 : Nat)] 25 (0, 0)) := (Below.heap_alloc _ _ _ (by omega)).trans ((hb_wa.block _ (by simp; try omega)).trans (heap_new (by simp)))
  have z1 : W.heap.size + 2 ≤ (wa.alloc (.cells #[.int .u64 (lb ov 0 : Nat), .int .u64 (lb ov 1 : Nat), .int .u64 (lb ov 2 : Nat), .int .u64 (lb ov 3 : Nat)] 25)).heap.size := by simp; omega
  clear hc_wa hf_wa hb_wa hz_wa hz_wa_W_0 hz_wa_W_1 cL
  generalize wa.alloc (.cells #[.int .u64 (lb ov 0 : Nat), .int .u64 (lb ov 1 : Nat), .int .u64 (lb ov 2 : Nat), .int .u64 (lb ov 3 : Nat)] 25) = W1 at *
  have s1' : stA W1 b lg un := (b1.block _ hlt).trans s1
  obtain ⟨es4, cl4, hm4⟩ := hC.m2.isMap
  have m0 := hC.m2.at_block (b1.block _ (by omega))
  have hs1 := Lib.hid fun (w2 : World) (hf : Fr (fun j => j = b + 2) W1 w2) => show stA w2 b lg un from (hf.block _ (by omega) (by omega)).trans s1'
  have hr1 := Lib.hid fun (w2 : World) (hf : Fr (fun j => j = b + 2) W1 w2) => show w2.ownsRow 0 1 1 un xs.length xs by
    rw [hxl.out]
    refine ownsRow_same hrow fun k hk => ?_
    obtain ⟨cs, h3⟩ := row_block hrow hk
    have := hfl k (hunF k hk)
    exact (hf.block k (by omega) (map_ne h3 hm4)).trans (b1.block k this)
  obtain ⟨x0, x1, x2, x3⟩ := cells4w k0
  obtain ⟨y0, y1, y2, y3⟩ := cells4w k1
  obtain ⟨_, _, e2, e3, _⟩ := s1'.cells
  refine wp_flowU (fun k => ([0, 0, 0, 0, 0, 1, 1, 1, 1, 1, 1, 1, 1, 2, 2, 2, 1, 1, 4] : List Nat).getD k 1) (saR W1 b (b + 2) N (a, k) (svF R) v lg un xs) (saC) (none) (Fr.drew (Fr.refl _ _)) trivial (by kernel_rfl) (by kernel_rfl) ?_
  (refine flowU_lateE rfl rfl (fun K hK => ?_); apply Exists.intro; apply And.intro; (focus (intro s0 w' hC hR; (first | (have hz := saR_late hC hR s1') | (have hR2 : Fr (fun _ => False) W1 w' := hR; have u0 := hR2.cell x0 id (by omega); have u1 := hR2.cell x1 id (by omega); have u2 := hR2.cell x2 id (by omega); have u3 := hR2.cell x3 id (by omega); have t0 := hR2.cell y0 id (by omega); have t1 := hR2.cell y1 id (by omega); have t2 := hR2.cell y2 id (by omega); have t3 := hR2.cell y3 id (by omega); have z2 := hR2.cell e2 id (by omega); have z3 := hR2.cell e3 id (by omega); clear hR2) | skip); clear hR; go_simp; (try go_bits); exact rfl)); go_simp; (try go_bits); refine hK _ ?_; clear hK K)
  (refine flowU_lateE rfl rfl (fun K hK => ?_); apply Exists.intro; apply And.intro; (focus (intro s0 w' hC hR; (first | (have hz := saR_late hC hR s1') | (have hR2 : Fr (fun _ => False) W1 w' := hR; have u0 := hR2.cell x0 id (by omega); have u1 := hR2.cell x1 id (by omega); have u2 := hR2.cell x2 id (by omega); have u3 := hR2.cell x3 id (by omega); have t0 := hR2.cell y0 id (by omega); have t1 := hR2.cell y1 id (by omega); have t2 := hR2.cell y2 id (by omega); have t3 := hR2.cell y3 id (by omega); have z2 := hR2.cell e2 id (by omega); have z3 := hR2.cell e3 id (by omega); clear hR2) | skip); clear hR; go_simp; (try go_bits); exact rfl)); go_simp; (try go_bits); refine hK _ ?_; clear hK K)
  (refine flowU_lateE rfl rfl (fun K hK => ?_); apply Exists.intro; apply And.intro; (focus (intro s0 w' hC hR; (first | (have hz := saR_late hC hR s1') | (have hR2 : Fr (fun _ => False) W1 w' := hR; have u0 := hR2.cell x0 id (by omega); have u1 := hR2.cell x1 id (by omega); have u2 := hR2.cell x2 id (by omega); have u3 := hR2.cell x3 id (by omega); have t0 := hR2.cell y0 id (by omega); have t1 := hR2.cell y1 id (by omega); have t2 := hR2.cell y2 id (by omega); have t3 := hR2.cell y3 id (by omega); have z2 := hR2.cell e2 id (by omega); have z3 := hR2.cell e3 id (by omega); clear hR2) | skip); clear hR; go_simp; (try go_bits); exact rfl)); go_simp; (try go_bits); refine hK _ ?_; clear hK K)
  (refine flowU_lateE rfl rfl (fun K hK => ?_); apply Exists.intro; apply And.intro; (focus (intro s0 w' hC hR; (first | (have hz := saR_late hC hR s1') | (have hR2 : Fr (fun _ => False) W1 w' := hR; have u0 := hR2.cell x0 id (by omega); have u1 := hR2.cell x1 id (by omega); have u2 := hR2.cell x2 id (by omega); have u3 := hR2.cell x3 id (by omega); have t0 := hR2.cell y0 id (by omega); have t1 := hR2.cell y1 id (by omega); have t2 := hR2.cell y2 id (by omega); have t3 := hR2.cell y3 id (by omega); have z2 := hR2.cell e2 id (by omega); have z3 := hR2.cell e3 id (by omega); clear hR2) | skip); clear hR; go_simp; (try go_bits); exact rfl)); go_simp; (try go_bits); refine hK _ ?_; clear hK K)
  (refine flowU_lateE rfl rfl (fun K hK => ?_); apply Exists.intro; apply And.intro; (focus (intro s0 w' hC hR; (first | (have hz := saR_late hC hR s1') | (have hR2 : Fr (fun _ => False) W1 w' := hR; have u0 := hR2.cell x0 id (by omega); have u1 := hR2.cell x1 id (by omega); have u2 := hR2.cell x2 id (by omega); have u3 := hR2.cell x3 id (by omega); have t0 := hR2.cell y0 id (by omega); have t1 := hR2.cell y1 id (by omega); have t2 := hR2.cell y2 id (by omega); have t3 := hR2.cell y3 id (by omega); have z2 := hR2.cell e2 id (by omega); have z3 := hR2.cell e3 id (by omega); clear hR2) | skip); clear hR; go_simp; (try go_bits); exact rfl)); go_simp; (try go_bits); refine hK _ ?_; clear hK K)
  (refine flowU_readE rfl rfl (fun K hK => ?_); apply Exists.intro; apply And.intro; (focus (intro w' hR; (first | (have hz := saR_late hC hR s1') | (have hR2 : Fr (fun _ => False) W1 w' := hR; have u0 := hR2.cell x0 id (by omega); have u1 := hR2.cell x1 id (by omega); have u2 := hR2.cell x2 id (by omega); have u3 := hR2.cell x3 id (by omega); have t0 := hR2.cell y0 id (by omega); have t1 := hR2.cell y1 id (by omega); have t2 := hR2.cell y2 id (by omega); have t3 := hR2.cell y3 id (by omega); have z2 := hR2.cell e2 id (by omega); have z3 := hR2.cell e3 id (by omega); clear hR2) | skip); clear hR; go_simp; (try go_bits); exact rfl)); go_simp; (try go_bits); refine hK _ ?_; clear hK K)
  (refine flowU_readE rfl rfl (fun K hK => ?_); apply Exists.intro; apply And.intro; (focus (intro w' hR; (first | (have hz := saR_late hC hR s1') | (have hR2 : Fr (fun _ => False) W1 w' := hR; have u0 := hR2.cell x0 id (by omega); have u1 := hR2.cell x1 id (by omega); have u2 := hR2.cell x2 id (by omega); have u3 := hR2.cell x3 id (by omega); have t0 := hR2.cell y0 id (by omega); have t1 := hR2.cell y1 id (by omega); have t2 := hR2.cell y2 id (by omega); have t3 := hR2.cell y3 id (by omega); have z2 := hR2.cell e2 id (by omega); have z3 := hR2.cell e3 id (by omega); clear hR2) | skip); clear hR; go_simp; (try go_bits); exact rfl)); go_simp; (try go_bits); refine hK _ ?_; clear hK K)
  (refine flowU_readE rfl rfl (fun K hK => ?_); apply Exists.intro; apply And.intro; (focus (intro w' hR; (first | (have hz := saR_late hC hR s1') | (have hR2 : Fr (fun _ => False) W1 w' := hR; have u0 := hR2.cell x0 id (by omega); have u1 := hR2.cell x1 id (by omega); have u2 := hR2.cell x2 id (by omega); have u3 := hR2.cell x3 id (by omega); have t0 := hR2.cell y0 id (by omega); have t1 := hR2.cell y1 id (by omega); have t2 := hR2.cell y2 id (by omega); have t3 := hR2.cell y3 id (by omega); have z2 := hR2.cell e2 id (by omega); have z3 := hR2.cell e3 id (by omega); clear hR2) | skip); clear hR; go_simp; (try go_bits); exact rfl)); go_simp; (try go_bits); refine hK _ ?_; clear hK K)
  (refine flowU_readE rfl rfl (fun K hK => ?_); apply Exists.intro; apply And.intro; (focus (intro w' hR; (first | (have hz := saR_late hC hR s1') | (have hR2 : Fr (fun _ => False) W1 w' := hR; have u0 := hR2.cell x0 id (by omega); have u1 := hR2.cell x1 id (by omega); have u2 := hR2.cell x2 id (by omega); have u3 := hR2.cell x3 id (by omega); have t0 := hR2.cell y0 id (by omega); have t1 := hR2.cell y1 id (by omega); have t2 := hR2.cell y2 id (by omega); have t3 := hR2.cell y3 id (by omega); have z2 := hR2.cell e2 id (by omega); have z3 := hR2.cell e3 id (by omega); clear hR2) | skip); clear hR; go_simp; (try go_bits); exact rfl)); go_simp; (try go_bits); refine hK _ ?_; clear hK K)
  (refine flowU_readE rfl rfl (fun K hK => ?_); apply Exists.intro; apply And.intro; (focus (intro w' hR; (first | (have hz := saR_late hC hR s1') | (have hR2 : Fr (fun _ => False) W1 w' := hR; have u0 := hR2.cell x0 id (by omega); have u1 := hR2.cell x1 id (by omega); have u2 := hR2.cell x2 id (by omega); have u3 := hR2.cell x3 id (by omega); have t0 := hR2.cell y0 id (by omega); have t1 := hR2.cell y1 id (by omega); have t2 := hR2.cell y2 id (by omega); have t3 := hR2.cell y3 id (by omega); have z2 := hR2.cell e2 id (by omega); have z3 := hR2.cell e3 id (by omega); clear hR2) | skip); clear hR; go_simp; (try go_bits); exact rfl)); go_simp; (try go_bits); refine hK _ ?_; clear hK K)
  (refine flowU_readE rfl rfl (fun K hK => ?_); apply Exists.intro; apply And.intro; (focus (intro w' hR; (first | (have hz := saR_late hC hR s1') | (have hR2 : Fr (fun _ => False) W1 w' := hR; have u0 := hR2.cell x0 id (by omega); have u1 := hR2.cell x1 id (by omega); have u2 := hR2.cell x2 id (by omega); have u3 := hR2.cell x3 id (by omega); have t0 := hR2.cell y0 id (by omega); have t1 := hR2.cell y1 id (by omega); have t2 := hR2.cell y2 id (by omega); have t3 := hR2.cell y3 id (by omega); have z2 := hR2.cell e2 id (by omega); have z3 := hR2.cell e3 id (by omega); clear hR2) | skip); clear hR; go_simp; (try go_bits); exact rfl)); go_simp; (try go_bits); refine hK _ ?_; clear hK K)
  (refine flowU_readE rfl rfl (fun K hK => ?_); apply Exists.intro; apply And.intro; (focus (intro w' hR; (first | (have hz := saR_late hC hR s1') | (have hR2 : Fr (fun _ => False) W1 w' := hR; have u0 := hR2.cell x0 id (by omega); have u1 := hR2.cell x1 id (by omega); have u2 := hR2.cell x2 id (by omega); have u3 := hR2.cell x3 id (by omega); have t0 := hR2.cell y0 id (by omega); have t1 := hR2.cell y1 id (by omega); have t2 := hR2.cell y2 id (by omega); have t3 := hR2.cell y3 id (by omega); have z2 := hR2.cell e2 id (by omega); have z3 := hR2.cell e3 id (by omega); clear hR2) | skip); clear hR; go_simp; (try go_bits); exact rfl)); go_simp; (try go_bits); refine hK _ ?_; clear hK K)
  (refine flowU_readE rfl rfl (fun K hK => ?_); apply Exists.intro; apply And.intro; (focus (intro w' hR; (first | (have hz := saR_late hC hR s1') | (have hR2 : Fr (fun _ => False) W1 w' := hR; have u0 := hR2.cell x0 id (by omega); have u1 := hR2.cell x1 id (by omega); have u2 := hR2.cell x2 id (by omega); have u3 := hR2.cell x3 id (by omega); have t0 := hR2.cell y0 id (by omega); have t1 := hR2.cell y1 id (by omega); have t2 := hR2.cell y2 id (by omega); have t3 := hR2.cell y3 id (by omega); have z2 := hR2.cell e2 id (by omega); have z3 := hR2.cell e3 id (by omega); clear hR2) | skip); clear hR; go_simp; (try go_bits); exact rfl)); go_simp; (try go_bits); refine hK _ ?_; clear hK K)
  refine flowU_step (fun v s => ∃ q, v = cloV q ∧ s = some (q, ⟨0, 0, undef⟩)) (by decide) rfl ⟨cloV 0, _, 0, rfl, rfl⟩ (fun w' hR => ?_) (fun _ _ v s2 h => (by obtain ⟨q, _, rfl⟩ := h; exact Nat.zero_le _)) (fun K hK v s2 hs2 => ?_)
  focus
    have hR : Fr (fun _ => False) W1 w' := hR
    have cS := set_mv (m0.at_block (hR.block _ (by omega) id)) hN (a, k) hp v
    unfold spW spV at cS
    dsimp only at cS
    go_simp
    refine cS.mono ?_
    rintro e w2 ⟨q, rfl, hq⟩
    have hQ := hq.back hR
    have hst2 := hs1.out w2 hQ.fr
    have hro2 := hr1.out w2 hQ.fr
    exact ⟨_, rfl, some (q, ⟨0, 0, undef⟩), ⟨q, rfl, rfl⟩, w2, hQ, hst2, hro2, Fr.refl _ _, hst2, fun _ => hro2, fun h => (by cases h), fun h => (by simp at h)⟩
  obtain ⟨qs, rfl, rfl⟩ := hs2
  (go_simp; refine hK _ _ ?_; clear hK K)
  refine flowU_step (saPB qs) (by decide) rfl ⟨.slice (some ⟨0, 0, none⟩) 1 1, _, 0, rfl, rfl⟩ (fun w' hR => ?_) (fun _ _ v s2 h => (by obtain ⟨g, _, rfl⟩ := h; exact (by decide : (1 : Nat) ≤ 2))) (fun K hK v s2 hs2 => ?_)
  focus
    obtain ⟨wm, hQ, hs0, hro0, hR⟩ := hR
    have hst' := hR.st
    have hlt' := (Array.getElem?_eq_some_iff.1 (show w'.heap[b + 6]? = _ from hst')).1
    have hfr := hR.fr
    have hro := hR.row (Nat.zero_le _)
    clear hR
    go_simp
    exact ⟨some (qs, ⟨1, w'.heap.size, undef⟩), ⟨_, rfl, rfl⟩, wm, hQ, hs0, hro0, hfr.alloc _, (Below.heap_alloc _ _ _ hlt').trans hst', fun _ => hro.alloc _, fun _ => ⟨hfr.size, heap_new rfl⟩, fun h => (by simp at h)⟩
  obtain ⟨g, rfl, rfl⟩ := hs2
  (go_simp; refine hK _ _ ?_; clear hK K)
  refine flowU_step (saPA qs (xs.length + 1) g) (by decide) rfl ⟨_, _, 0, 0, rfl, rfl⟩ (fun w' hR => ?_) (fun _ _ v s2 h => (by obtain ⟨_, _, _, rfl⟩ := h; exact (by decide : (2 : Nat) ≤ 2))) (fun K hK v s2 hs2 => ?_)
  focus
    obtain ⟨wm, hQ, hs0, hro0, hR⟩ := hR
    have hst' := hR.st
    have hlt' := (Array.getElem?_eq_some_iff.1 (show w'.heap[b + 6]? = _ from hst')).1
    obtain ⟨hg1, hg2⟩ := hR.one rfl
    have hro := hR.row (Nat.le_refl _)
    have hfr := hR.fr
    clear hR
    have hgc : w'.cell? ⟨g, 0, none⟩ = some (cloV qs) := by
      have hg3 : w'.heap[g]? = _ := hg2
      simp [World.cell?, hg3]
    obtain ⟨v', w2, hr, hown', hgrow, _, hloc⟩ := run_append_own_at (P := Tryd.prog) w' 0 71 71 1 i0 .nilFunc 1 8 Tryd.underlying71 hi hz0 hz1 hz2 rfl (by decide) un xs.length xs hro ⟨g, 0, none⟩ 1 1 [cloV qs] rfl
      (fun j u hj => by
        cases j with
        | zero => simp at hj; subst hj; simpa [Addr.add] using hgc
        | succ j => simp at hj) (by simp [Value.oneCell', cloV]) (by unfold maxLen; omega) (by omega) (Nat.zero_le _)
    rw [append_exec (P := Tryd.prog) rfl rfl rfl hr]
    have hne : un.ownBlock ≠ some (b + 6) := fun e => by
      obtain ⟨cs, h3⟩ := row_block hro e
      have h6 : w'.heap[b + 6]? = _ := hst'
      rw [h3] at h6
      injection h6 with h6
      injection h6 with _ h6
      exact absurd h6 (by decide)
    obtain ⟨q, cap, rfl⟩ : ∃ q cap, v' = .slice (some ⟨q, 0, none⟩) (xs.length + 1) cap := by
      rcases hown'.2 with ⟨_, h0⟩ | ⟨q, cap, cur, h0, _⟩
      · simp at h0
      · exact ⟨q, cap, h0⟩
    refine ⟨some (qs, ⟨2, g, _⟩), ⟨q, cap, rfl, rfl⟩, wm, hQ, hs0, hro0, hfr.trans ⟨hgrow.os, hgrow.tape, hgrow.output, hgrow.size, fun k hk hT => hgrow.block k hk fun e => hT (.inl e.symm)⟩, (hgrow.block _ hlt' (fun e => hne e.symm)).trans hst', fun h => (by simp at h), fun h => (by cases h), fun _ => ⟨hown', ?_⟩⟩
    rcases hloc with h | h
    · exact .inl h
    · exact .inr ⟨_, h, hfr.size⟩
  obtain ⟨q, cap, rfl, rfl⟩ := hs2
  (go_simp; refine hK _ _ ?_; clear hK K)
  (refine flowU_readE rfl rfl (fun K hK => ?_); apply Exists.intro; apply And.intro; (focus (intro w' hR; (first | (have hz := saR_late hC hR s1') | (have hR2 : Fr (fun _ => False) W1 w' := hR; have u0 := hR2.cell x0 id (by omega); have u1 := hR2.cell x1 id (by omega); have u2 := hR2.cell x2 id (by omega); have u3 := hR2.cell x3 id (by omega); have t0 := hR2.cell y0 id (by omega); have t1 := hR2.cell y1 id (by omega); have t2 := hR2.cell y2 id (by omega); have t3 := hR2.cell y3 id (by omega); have z2 := hR2.cell e2 id (by omega); have z3 := hR2.cell e3 id (by omega); clear hR2) | skip); clear hR; go_simp; (try go_bits); exact rfl)); go_simp; (try go_bits); refine hK _ ?_; clear hK K)
  (refine flowU_readE rfl rfl (fun K hK => ?_); apply Exists.intro; apply And.intro; (focus (intro w' hR; (first | (have hz := saR_late hC hR s1') | (have hR2 : Fr (fun _ => False) W1 w' := hR; have u0 := hR2.cell x0 id (by omega); have u1 := hR2.cell x1 id (by omega); have u2 := hR2.cell x2 id (by omega); have u3 := hR2.cell x3 id (by omega); have t0 := hR2.cell y0 id (by omega); have t1 := hR2.cell y1 id (by omega); have t2 := hR2.cell y2 id (by omega); have t3 := hR2.cell y3 id (by omega); have z2 := hR2.cell e2 id (by omega); have z3 := hR2.cell e3 id (by omega); clear hR2) | skip); clear hR; go_simp; (try go_bits); exact rfl)); go_simp; (try go_bits); refine hK _ ?_; clear hK K)
  refine flowU_step (saPC qs g (Value.slice (some ⟨q, 0, none⟩) (xs.length + 1) cap)) (by decide) rfl ⟨undef, _, rfl, rfl⟩ (fun w' hR => ?_) (fun h => absurd rfl h) (fun K hK v s2 hs2 => ?_)
  focus
    obtain ⟨wm, hQ, hs0, hro0, hR⟩ := hR
    have hst' := hR.st
    rw [if_pos (by simp)] at hst'
    have hlt' := (Array.getElem?_eq_some_iff.1 (show w'.heap[b + 6]? = _ from hst')).1
    obtain ⟨_, _, _, _, _, _, _, d7, ff⟩ := hst'.cells
    have f7 := ff 7
    obtain ⟨n1, n2⟩ := hR.new (Nat.le_refl _)
    have hfr := hR.fr
    clear hR ff
    dsimp only at n1 n2
    have hne : ((Value.slice (some ⟨q, 0, none⟩) (xs.length + 1) cap)).ownBlock ≠ some (b + 6) := fun e => by
      obtain ⟨cs, h3⟩ := row_block n1 e
      have h6 : w'.heap[b + 6]? = _ := hst'
      rw [h3] at h6
      injection h6 with h6
      injection h6 with _ h6
      exact absurd h6 (by decide)
    go_simp
    exact ⟨some (qs, ⟨3, g, (Value.slice (some ⟨q, 0, none⟩) (xs.length + 1) cap)⟩), ⟨rfl, rfl⟩, wm, hQ, hs0, hro0, hfr.setCell (.inl (.inr rfl)) _, hst'.set _, fun h => (by simp at h), fun h => (by simp at h), fun _ => ⟨ownsRow_same n1 fun k hk => heap_set_ne (fun e => hne (e ▸ hk)), n2⟩⟩
  obtain ⟨rfl, rfl⟩ := hs2
  (go_simp; refine hK _ _ ?_; clear hK K)
  refine flowU_nil ?_
  intro X4 hR4
  obtain ⟨wm, hQ, s3, hrow3, hR4⟩ := hR4
  have szm := hQ.fr.size
  have bm : ∀ k, k < W.heap.size → k ≠ b + 2 → wm.heap[k]? = W.heap[k]? := fun k hk hn => (hQ.fr.block k (by omega) hn).trans (b1.block k hk)
  have f3 : Fr F W wm := ((Fr.refl _ W).below b1).trans ⟨hQ.fr.os, hQ.fr.tape, hQ.fr.output, hQ.fr.size, fun k hk hT => hQ.fr.block k hk (fun e => hT (by rw [e]; exact hC.fb 2 (by omega)))⟩
  have hC3 : CRep wm (fun k => F k ∨ (W.heap.size ≤ k ∧ k < wm.heap.size)) b (N + 1) L (.save (a, k) v :: R) un := by
    have hj := fun j (h1 : j ≤ 6) (h2 : j ≠ 2) => bm (b + j) (by omega) (by omega)
    refine ⟨fun k hk => ?_, fun j hj => .inl (hC.fb j hj), ⟨lg, s3, ownsRow_same hrl fun k hk => ?_, fun k hk => .inl (hlgF k hk)⟩, (hC.m0.at_block (hj 0 (by omega) (by omega))).mono (by omega), (hC.m1.at_block (hj 1 (by omega) (by omega))).mono (by omega), ?_, (hC.m3.at_block (hj 3 (by omega) (by omega))).mono (by omega), (hC.m4.at_block (hj 4 (by omega) (by omega))).mono (by omega), (hC.m5.at_block (hj 5 (by omega) (by omega))).mono (by omega)⟩
    · rcases hk with hk | hk
      · have := hfl k hk
        omega
      · exact hk.2
    · obtain ⟨cs, h3⟩ := row_block hrl hk
      exact bm k (hfl k (hlgF k hk)) (map_ne h3 hm4)
    · refine hQ.map.ext fun j _ => ?_
      show _ = (svF (.save (a, k) v :: R) j).map W4
      by_cases e : j = (a, k)
      · simp [svF, e]
      · simp [svF, e]
  have hx3 : unL wm (fun k => F k ∨ (W.heap.size ≤ k ∧ k < wm.heap.size)) b R xs := hxs.stays (fun q cs t ht hq he => (bm q (hfl q hq) (map_ne he hm4)).trans he) fun k hk => .inl hk
  have hqq : qs + 4 < wm.heap.size := (Array.getElem?_eq_some_iff.1 hQ.bh).1
  have hq0 := hQ.q0
  have hv3 : unAt wm (fun k => F k ∨ (W.heap.size ≤ k ∧ k < wm.heap.size)) b R (.save (a, k) v) (cloV qs) :=
    ⟨qs + 4, qs + 3, qs, qs + 1, rfl, ⟨.inr ⟨by omega, by omega⟩, hQ.bh⟩, ⟨.inr ⟨by omega, by omega⟩, hQ.bw⟩, ⟨.inr ⟨by omega, by omega⟩, hQ.bm⟩, ⟨.inr ⟨by omega, by omega⟩, hQ.bs⟩⟩
  have hCb := hC.fb 6 (by omega)
  clear hC hxs hrow hrl hs1 hr1 hQ bm hm4
  have fr4 := hR4.fr
  have st4 := hR4.st
  rw [if_neg (by simp)] at st4
  dsimp only at st4
  obtain ⟨ro4, at4⟩ := hR4.new (by simp)
  clear hR4
  have sz4 := fr4.size
  have f4 : Fr F W X4 := f3.trans ⟨fr4.os, fr4.tape, fr4.output, fr4.size, fun k hk hT => fr4.block k hk (fun e => hT (by
    rcases e with e | e
    · exact hunF k e
    · rw [e]; exact hCb))⟩
  have fin := push_done (F' := fun k => F k ∨ (W.heap.size ≤ k ∧ k < X4.heap.size)) hC3 s3 hrow3 (fun k hk => .inl (hunF k hk)) hx3 hv3 fr4 st4 ro4 at4 (fun k hk => by
    rcases hk with hk | hk
    · exact .inl hk
    · exact .inr ⟨hk.1, Nat.lt_of_lt_of_le hk.2 sz4⟩) (fun k h1 h2 => .inr ⟨by omega, h2⟩) (fun k hk => by
    rcases hk with hk | hk
    · have := hfl k hk
      omega
    · exact hk.2)
  clear hC3 hrow3 hx3 hv3 ro4 st4 at4 fr4
  go_wp2
  go_ret
  exact ⟨rfl, _, fin, f4, fun k hk => .inl hk, fun k hk => hk.imp id (fun h => h.1)⟩

set_option maxRecDepth 100000 in
set_option maxHeartbeats 16000000 in
theorem Save_no (h : SRep W F b N L R) (hW : 3 ≤ W.heap.size) (hT : KT W) (hL : ∀ K ∈ L, Kok W K) {a : ByteArray} {k : Nat} (hp : okP (a, k)) (v : Nat) (hok : (loaN L R a k).2 = 190) :
    Calls Tryd.prog 21 #[ptr (b + 6), .string a, W4 k, W4 v] W (muPost W F b (N + 1) L R (.int .i64 190)) := by
  have hfl := h.flt
  have hS := fun (w' : World) (hb : Below W.heap.size W w') => h.below hb
  have cL := fun o1 o2 => Load_all (h.below (((Below.refl _ W).alloc (Nat.le_refl _) o1).alloc (by simp) o2)) (by simp; omega) (hT.below (((Below.refl _ W).alloc (Nat.le_refl _) o1).alloc (by simp) o2) hW) (fun K hK => (hL K hK).below (((Below.refl _ W).alloc (Nat.le_refl _) o1).alloc (by simp) o2)) hp
  rw [hok] at cL
  generalize (loaN L R a k).1 = ov at *
  clear h
  unfold ptr at *
  go_enter Tryd.func21, Tryd.ntmps21
  go_wp2_with (go_at_call 14; refine (cL _ _).mono ?_; rintro e wa ⟨rfl, hb_wa⟩; have hc_wa := (bcell hb_wa).1; have hf_wa := (bcell hb_wa).2; have hz_wa : _ ≤ wa.heap.size := hb_wa.size; (try simp only [World.size_alloc, World.heap_drewN, World.size_setCell, heap_drew] at hc_wa hf_wa hz_wa); have hz_wa_W_0 : W.heap.size < wa.heap.size := (by omega); have hz_wa_W_1 : W.heap.size + 1 < wa.heap.size := (by omega))
  have b1 : Below W.heap.size W (wa.alloc (.cells #[.int .u64 (lb ov 0 : Nat), .int .u64 (lb ov 1 : Nat), .int .u64 (lb ov 2 : Nat), .int .u64 (lb ov 3 : Nat)] 25)) := ((((Below.refl _ W).alloc (Nat.le_refl _) _).alloc (by simp) _).trans (hb_wa.mono (by simp; omega))).alloc (by omega) _
  go_ret
  exact ⟨rfl, F, (hS _ b1).mono (fun _ h => h) (by omega) (fun k hk => Nat.lt_of_lt_of_le (hfl k hk) b1.size), (Fr.refl _ W).below b1, fun _ h => h, fun _ h => .inl h⟩
end
end Go.Proofs.YtcdjdnbdblpofaaDoor
