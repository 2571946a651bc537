/-
  Log: its contract. Conditions: the state is one.
-/
import Derived.Test.YtcdjdnbdblpofaaDoorPL24
namespace Go.Proofs.YtcdjdnbdblpofaaDoor
open Go.RowKit Go.Maps
attribute [local go_sem] leftBy leaves
set_option linter.unusedSimpArgs false
set_option linter.unusedVariables false

theorem stA.set6 {W : World} {b : Nat} {lg un : Value} (h : stA W b lg un) (u : Value) : stA (W.setCell ⟨b + 6, 6, none⟩ u) b u un := by
  obtain ⟨hlt, hk⟩ := Array.getElem?_eq_some_iff.1 (show W.heap[b + 6]? = _ from h)
  show (W.heap.modify (b + 6) _)[b + 6]? = _
  rw [Array.getElem?_eq_getElem (by rw [Array.size_modify]; exact hlt), Array.getElem_modify_self, hk]
  rfl
/-- Where the region that notes a log stands. -/
structure loR (W1 : World) (b : Nat) (lg un : Value) (n : Nat) (xs vc : List Value) (s : PuS) (w' : World) : Prop where
  fr : Fr (fun k => lg.ownBlock = some k ∨ k = b + 6) W1 w'
  st : stA w' b (if s.st ≤ 2 then lg else s.u) un
  row : s.st ≤ 1 → w'.ownsRow 0 43 3 lg n xs
  one : s.st = 1 → W1.heap.size ≤ s.g ∧ w'.heap[s.g]? = some (.cells vc.toArray 43 (0, 0))
  new : 2 ≤ s.st → w'.ownsRow 0 43 3 s.u (n + 1) (xs ++ vc) ∧ (s.u.ownBlock = lg.ownBlock ∨ ∃ q, s.u.ownBlock = some q ∧ W1.heap.size ≤ q)



section
variable {W : World} {F : Nat → Prop} {b N : Nat} {L : List Kw} {R : List Chg}

set_option maxRecDepth 100000 in
set_option maxHeartbeats 16000000 in
theorem Log_S (h : SRep W F b N L R) (l : Lg) (hRl : R.length ≤ 1000000) :
    Calls Tryd.prog 19 #[ptr (b + 6), l.v] W (muPost W F b (N + 1) L (.note l :: R) (.int .i64 0)) := by
  have hfl := h.flt
  obtain ⟨un, hC, xs, hrow, hunF, hxs⟩ := h
  obtain ⟨lg, s1, hrl, hlgF⟩ := hC.st
  obtain ⟨i0, hi, hz0, hz1, hz2⟩ := info_parts infoF
  obtain ⟨j0, hj, hy0, hy1, hy2⟩ := info_parts infoL
  have hxl := Lib.hid hxs.length
  have hxl2 : xs.length ≤ 1000000 := by rw [hxl.out]; exact hRl
  have hlt := s1.lt
  have hnl : (lgF R).length ≤ 1000000 := Nat.le_trans (lgF_le R) hRl
  obtain ⟨ga, gc, hlv⟩ : ∃ g cap, lg = .slice g (lgF R).length cap := by
    rcases hrl.2 with ⟨rfl, h0⟩ | ⟨g, cap, cur, rfl, _⟩
    · exact ⟨none, 0, by rw [h0]⟩
    · exact ⟨_, _, rfl⟩
  subst hlv
  have b1 : Below W.heap.size W (((W.alloc (.cells #[.pointer (some ⟨b + 6, 0, none⟩)] 27)).alloc (.cells #[.string l.ad, .slice l.tp l.tn l.tc, .string l.dt] 43)).alloc (.cells #[.int .i64 (lgF R).length] 3)) := (((Below.refl _ W).alloc (Nat.le_refl _) _).alloc (by simp) _).alloc (by simp; omega) _
  have k2 : (((W.alloc (.cells #[.pointer (some ⟨b + 6, 0, none⟩)] 27)).alloc (.cells #[.string l.ad, .slice l.tp l.tn l.tc, .string l.dt] 43)).alloc (.cells #[.int .i64 (lgF R).length] 3)).heap[W.heap.size]? = _ := (Below.heap_alloc _ _ _ (by simp; omega)).trans ((Below.heap_alloc _ _ _ (by simp)).trans (heap_new rfl))
  have k3 : (((W.alloc (.cells #[.pointer (some ⟨b + 6, 0, none⟩)] 27)).alloc (.cells #[.string l.ad, .slice l.tp l.tn l.tc, .string l.dt] 43)).alloc (.cells #[.int .i64 (lgF R).length] 3)).heap[W.heap.size + 1]? = _ := (Below.heap_alloc _ _ _ (by simp)).trans (heap_new (by simp))
  have k5 : (((W.alloc (.cells #[.pointer (some ⟨b + 6, 0, none⟩)] 27)).alloc (.cells #[.string l.ad, .slice l.tp l.tn l.tc, .string l.dt] 43)).alloc (.cells #[.int .i64 (lgF R).length] 3)).heap[W.heap.size + 1 + 1]? = _ := heap_new (by simp)
  have z1 : W.heap.size + 3 ≤ (((W.alloc (.cells #[.pointer (some ⟨b + 6, 0, none⟩)] 27)).alloc (.cells #[.string l.ad, .slice l.tp l.tn l.tc, .string l.dt] 43)).alloc (.cells #[.int .i64 (lgF R).length] 3)).heap.size := by simp
  obtain ⟨_, _, _, _, _, _, d6, d7, _⟩ := s1.cells
  unfold ptr Lg.v
  go_enter Tryd.func19, Tryd.ntmps19
  go_wp2
  generalize ((W.alloc (.cells #[.pointer (some ⟨b + 6, 0, none⟩)] 27)).alloc (.cells #[.string l.ad, .slice l.tp l.tn l.tc, .string l.dt] 43)).alloc (.cells #[.int .i64 (lgF R).length] 3) = W1 at *
  have s1' : stA W1 b (Value.slice ga (lgF R).length gc) un := (b1.block _ hlt).trans s1
  have hlrow1 : W1.ownsRow 0 43 3 (Value.slice ga (lgF R).length gc) ((lgF R).length) (lgC (lgF R)) := ownsRow_same hrl fun k hk => b1.block k (hfl k (hlgF k hk))
  have x2 : W1.cell? ⟨W.heap.size, 0, none⟩ = some (.pointer (some ⟨b + 6, 0, none⟩)) := by simp [World.cell?, k2]
  have x30 : W1.cell? ⟨W.heap.size + 1, 0, none⟩ = some (.string l.ad) := by simp [World.cell?, k3]
  have x31 : W1.cell? ⟨W.heap.size + 1, 1, none⟩ = some (.slice l.tp l.tn l.tc) := by simp [World.cell?, k3]
  have x32 : W1.cell? ⟨W.heap.size + 1, 2, none⟩ = some (.string l.dt) := by simp [World.cell?, k3]
  have hL2 : ¬ ((Value.slice ga (lgF R).length gc).ownBlock = some W.heap.size ∨ W.heap.size = b + 6) := fun h => by
    rcases h with h | h
    · have := hfl _ (hlgF _ h)
      omega
    · omega
  have hL3 : ¬ ((Value.slice ga (lgF R).length gc).ownBlock = some (W.heap.size + 1) ∨ W.heap.size + 1 = b + 6) := fun h => by
    rcases h with h | h
    · have := hfl _ (hlgF _ h)
      omega
    · omega
  have hL5 : ¬ ((Value.slice ga (lgF R).length gc).ownBlock = some (W.heap.size + 1 + 1) ∨ W.heap.size + 1 + 1 = b + 6) := fun h => by
    rcases h with h | h
    · have := hfl _ (hlgF _ h)
      omega
    · omega
  clear d6 d7
  refine wp_flowU (fun k => ([0, 0, 0, 0, 0, 1, 2, 2, 1, 1, 4] : List Nat).getD k 1) (loR W1 b (Value.slice ga (lgF R).length gc) un ((lgF R).length) (lgC (lgF R)) [Value.string l.ad, Value.slice l.tp l.tn l.tc, Value.string l.dt]) (fun s => s.st ≤ 2) (⟨0, 0, undef⟩) (⟨Fr.drew (Fr.refl _ _), s1', fun _ => hlrow1, fun h => (by cases h), fun h => (by simp at h)⟩) (by decide) (by kernel_rfl) (by kernel_rfl) ?_
  (refine flowU_lateE rfl rfl (fun K hK => ?_); apply Exists.intro; apply And.intro; (focus (intro s0 w' hC hR; have hq := hR.st; rw [if_pos (by first | exact hC | simp)] at hq; obtain ⟨_, _, _, _, _, _, e6, _⟩ := hq.cells; have y2 := hR.fr.cell x2 hL2 (by omega); have y30 := hR.fr.cell x30 hL3 (by omega); have y31 := hR.fr.cell x31 hL3 (by omega); have y32 := hR.fr.cell x32 hL3 (by omega); clear hq hR; go_simp; (try go_bits); exact rfl)); go_simp; (try go_bits); refine hK _ ?_; clear hK K)
  (refine flowU_lateE rfl rfl (fun K hK => ?_); apply Exists.intro; apply And.intro; (focus (intro s0 w' hC hR; have hq := hR.st; rw [if_pos (by first | exact hC | simp)] at hq; obtain ⟨_, _, _, _, _, _, e6, _⟩ := hq.cells; have y2 := hR.fr.cell x2 hL2 (by omega); have y30 := hR.fr.cell x30 hL3 (by omega); have y31 := hR.fr.cell x31 hL3 (by omega); have y32 := hR.fr.cell x32 hL3 (by omega); clear hq hR; go_simp; (try go_bits); exact rfl)); go_simp; (try go_bits); refine hK _ ?_; clear hK K)
  (refine flowU_lateE rfl rfl (fun K hK => ?_); apply Exists.intro; apply And.intro; (focus (intro s0 w' hC hR; have hq := hR.st; rw [if_pos (by first | exact hC | simp)] at hq; obtain ⟨_, _, _, _, _, _, e6, _⟩ := hq.cells; have y2 := hR.fr.cell x2 hL2 (by omega); have y30 := hR.fr.cell x30 hL3 (by omega); have y31 := hR.fr.cell x31 hL3 (by omega); have y32 := hR.fr.cell x32 hL3 (by omega); clear hq hR; go_simp; (try go_bits); exact rfl)); go_simp; (try go_bits); refine hK _ ?_; clear hK K)
  (refine flowU_lateE rfl rfl (fun K hK => ?_); apply Exists.intro; apply And.intro; (focus (intro s0 w' hC hR; have hq := hR.st; rw [if_pos (by first | exact hC | simp)] at hq; obtain ⟨_, _, _, _, _, _, e6, _⟩ := hq.cells; have y2 := hR.fr.cell x2 hL2 (by omega); have y30 := hR.fr.cell x30 hL3 (by omega); have y31 := hR.fr.cell x31 hL3 (by omega); have y32 := hR.fr.cell x32 hL3 (by omega); clear hq hR; go_simp; (try go_bits); exact rfl)); go_simp; (try go_bits); refine hK _ ?_; clear hK K)
  (refine flowU_lateE rfl rfl (fun K hK => ?_); apply Exists.intro; apply And.intro; (focus (intro s0 w' hC hR; have hq := hR.st; rw [if_pos (by first | exact hC | simp)] at hq; obtain ⟨_, _, _, _, _, _, e6, _⟩ := hq.cells; have y2 := hR.fr.cell x2 hL2 (by omega); have y30 := hR.fr.cell x30 hL3 (by omega); have y31 := hR.fr.cell x31 hL3 (by omega); have y32 := hR.fr.cell x32 hL3 (by omega); clear hq hR; go_simp; (try go_bits); exact rfl)); go_simp; (try go_bits); refine hK _ ?_; clear hK K)
  (refine flowU_readE rfl rfl (fun K hK => ?_); apply Exists.intro; apply And.intro; (focus (intro w' hR; have hq := hR.st; rw [if_pos (by first | exact hC | simp)] at hq; obtain ⟨_, _, _, _, _, _, e6, _⟩ := hq.cells; have y2 := hR.fr.cell x2 hL2 (by omega); have y30 := hR.fr.cell x30 hL3 (by omega); have y31 := hR.fr.cell x31 hL3 (by omega); have y32 := hR.fr.cell x32 hL3 (by omega); clear hq hR; go_simp; (try go_bits); exact rfl)); go_simp; (try go_bits); refine hK _ ?_; clear hK K)
  refine flowU_step puPB (by decide) rfl ⟨.slice (some ⟨0, 0, none⟩) 1 1, _, 0, rfl, rfl⟩ (fun w' hR => ?_) (fun _ _ v s2 h => (by obtain ⟨g, _, rfl⟩ := h; exact (by decide : (1 : Nat) ≤ 2))) (fun K hK v s2 hs2 => ?_)
  focus
    have hst' := hR.st
    have hlt' := (Array.getElem?_eq_some_iff.1 (show w'.heap[b + 6]? = _ from hst')).1
    have hfr := hR.fr
    have hro := hR.row (Nat.zero_le _)
    clear hR
    go_simp
    exact ⟨⟨1, w'.heap.size, undef⟩, ⟨_, rfl, rfl⟩, hfr.alloc _, (Below.heap_alloc _ _ _ hlt').trans hst', fun _ => hro.alloc _, fun _ => ⟨hfr.size, heap_new rfl⟩, fun h => (by simp at h)⟩
  obtain ⟨g, rfl, rfl⟩ := hs2
  (go_simp; refine hK _ _ ?_; clear hK K)
  refine flowU_step (puPA ((lgF R).length + 1) g) (by decide) rfl ⟨_, _, 0, 0, rfl, rfl⟩ (fun w' hR => ?_) (fun _ _ v s2 h => (by obtain ⟨_, _, _, rfl⟩ := h; exact (by decide : (2 : Nat) ≤ 2))) (fun K hK v s2 hs2 => ?_)
  focus
    have hst' := hR.st
    have hlt' := (Array.getElem?_eq_some_iff.1 (show w'.heap[b + 6]? = _ from hst')).1
    obtain ⟨hg1, hg2⟩ := hR.one rfl
    have hro := hR.row (Nat.le_refl _)
    have hfr := hR.fr
    clear hR
    obtain ⟨v', w2, hr, hown', hgrow, _, hloc⟩ := run_append_own_at (P := Tryd.prog) w' 0 37 37 43 j0 _ 3 56 Tryd.underlying37 hj hy0 hy1 hy2 rfl (by decide) (Value.slice ga (lgF R).length gc) ((lgF R).length) (lgC (lgF R)) hro ⟨g, 0, none⟩ 1 1 [Value.string l.ad, Value.slice l.tp l.tn l.tc, Value.string l.dt] rfl
      (fun j u hj => by
        have hg3 : w'.heap[g]? = _ := hg2
        rw [World.cell?_of_block (w := w') (w' := w') rfl]
        have hj3 : j = 0 ∨ j = 1 ∨ j = 2 := by
          have := (List.getElem?_eq_some_iff.1 hj).1
          simp at this
          omega
        rcases hj3 with rfl | rfl | rfl <;> simp at hj <;> subst hj <;> simp [Addr.add, World.cell?, hg3]) (by simp [Value.oneCell']) (by unfold maxLen; omega) (by omega) (Nat.zero_le _)
    rw [append_exec (P := Tryd.prog) rfl rfl rfl hr]
    have hne : (Value.slice ga (lgF R).length gc).ownBlock ≠ some (b + 6) := fun e => by
      obtain ⟨cs, h3⟩ := row_block hro e
      have h6 : w'.heap[b + 6]? = _ := hst'
      rw [h3] at h6
      injection h6 with h6
      injection h6 with _ h6
      exact absurd h6 (by decide)
    obtain ⟨q, cap, rfl⟩ : ∃ q cap, v' = .slice (some ⟨q, 0, none⟩) ((lgF R).length + 1) cap := by
      rcases hown'.2 with ⟨_, h0⟩ | ⟨q, cap, cur, h0, _⟩
      · simp at h0
      · exact ⟨q, cap, h0⟩
    refine ⟨⟨2, g, _⟩, ⟨q, cap, rfl, rfl⟩, hfr.trans ⟨hgrow.os, hgrow.tape, hgrow.output, hgrow.size, fun k hk hT => hgrow.block k hk fun e => hT (.inl e.symm)⟩, (hgrow.block _ hlt' (fun e => hne e.symm)).trans hst', fun h => (by simp at h), fun h => (by cases h), fun _ => ⟨hown', ?_⟩⟩
    rcases hloc with h | h
    · exact .inl h
    · exact .inr ⟨_, h, hfr.size⟩
  obtain ⟨ql, capl, rfl, rfl⟩ := hs2
  (go_simp; refine hK _ _ ?_; clear hK K)
  (refine flowU_readE rfl rfl (fun K hK => ?_); apply Exists.intro; apply And.intro; (focus (intro w' hR; have hq := hR.st; rw [if_pos (by first | exact hC | simp)] at hq; obtain ⟨_, _, _, _, _, _, e6, _⟩ := hq.cells; have y2 := hR.fr.cell x2 hL2 (by omega); have y30 := hR.fr.cell x30 hL3 (by omega); have y31 := hR.fr.cell x31 hL3 (by omega); have y32 := hR.fr.cell x32 hL3 (by omega); clear hq hR; go_simp; (try go_bits); exact rfl)); go_simp; (try go_bits); refine hK _ ?_; clear hK K)
  (refine flowU_readE rfl rfl (fun K hK => ?_); apply Exists.intro; apply And.intro; (focus (intro w' hR; have hq := hR.st; rw [if_pos (by first | exact hC | simp)] at hq; obtain ⟨_, _, _, _, _, _, e6, _⟩ := hq.cells; have y2 := hR.fr.cell x2 hL2 (by omega); have y30 := hR.fr.cell x30 hL3 (by omega); have y31 := hR.fr.cell x31 hL3 (by omega); have y32 := hR.fr.cell x32 hL3 (by omega); clear hq hR; go_simp; (try go_bits); exact rfl)); go_simp; (try go_bits); refine hK _ ?_; clear hK K)
  refine flowU_step (puPC g (Value.slice (some ⟨ql, 0, none⟩) ((lgF R).length + 1) capl)) (by decide) rfl ⟨undef, _, rfl, rfl⟩ (fun w' hR => ?_) (fun h => absurd rfl h) (fun K hK v s2 hs2 => ?_)
  focus
    have hst' := hR.st
    rw [if_pos (by simp)] at hst'
    have hlt' := (Array.getElem?_eq_some_iff.1 (show w'.heap[b + 6]? = _ from hst')).1
    obtain ⟨_, _, _, _, _, _, d6, _, ff⟩ := hst'.cells
    have f6 := ff 6
    obtain ⟨n1, n2⟩ := hR.new (Nat.le_refl _)
    have hfr := hR.fr
    clear hR ff
    dsimp only at n1 n2
    have hne : (Value.slice (some ⟨ql, 0, none⟩) ((lgF R).length + 1) capl).ownBlock ≠ some (b + 6) := fun e => by
      obtain ⟨cs, h3⟩ := row_block n1 e
      have h6 : w'.heap[b + 6]? = _ := hst'
      rw [h3] at h6
      injection h6 with h6
      injection h6 with _ h6
      exact absurd h6 (by decide)
    go_simp
    exact ⟨⟨3, g, Value.slice (some ⟨ql, 0, none⟩) ((lgF R).length + 1) capl⟩, ⟨rfl, rfl⟩, hfr.setCell (.inl (.inr rfl)) _, hst'.set6 _, fun h => (by simp at h), fun h => (by simp at h), fun _ => ⟨ownsRow_same n1 fun k hk => heap_set_ne (fun e => hne (e ▸ hk)), n2⟩⟩
  obtain ⟨rfl, rfl⟩ := hs2
  (go_simp; refine hK _ _ ?_; clear hK K)
  refine flowU_nil ?_
  intro W3 hR3
  have fr3 := hR3.fr
  have s3 : stA W3 b (Value.slice (some ⟨ql, 0, none⟩) ((lgF R).length + 1) capl) un := by
    have := hR3.st
    rw [if_neg (by simp)] at this
    exact this
  obtain ⟨ro3, at3⟩ := hR3.new (by simp)
  clear hR3 s1' hlrow1
  dsimp only at ro3 at3
  have sz3 := fr3.size
  have h6 : W.heap[b + 6]? = _ := s1
  have b3 : ∀ k, k < W.heap.size → (∀ cs f, W.heap[k]? ≠ some (.cells cs 43 f)) → k ≠ b + 6 → W3.heap[k]? = W.heap[k]? := fun k hk h1 h2 => (fr3.block k (by omega) (fun hT => by
    rcases hT with hT | hT
    · obtain ⟨cs, h3⟩ := row_block hrl hT
      exact h1 _ _ h3
    · exact h2 hT)).trans (b1.block k hk)
  have hMap : ∀ {ι : Type} {kt : TypeId} {kv : ι → Value} {ok : ι → Prop} {mb : Nat} {z : Value} {f : ι → Option Value}, MV W kt kv ok mb N z f → MV W3 kt kv ok mb (N + 1) z f := fun h => (h.at_block (by
    obtain ⟨es, clock, hm⟩ := h.isMap
    exact b3 _ h.lt (fun cs f e => by rw [hm] at e; cases e) (fun e => by rw [e, h6] at hm; cases hm))).mono (by omega)
  have f3 : Fr F W W3 := ((Fr.refl _ W).below b1).trans ⟨fr3.os, fr3.tape, fr3.output, fr3.size, fun k hk hT => fr3.block k hk (fun e => hT (by
    rcases e with e | e
    · exact hlgF k e
    · rw [e]; exact hC.fb 6 (by omega)))⟩
  have hrow3 : W3.ownsRow 0 1 1 un xs.length xs := by
    rw [hxl.out]
    refine ownsRow_same hrow fun k hk => ?_
    obtain ⟨cs, h3⟩ := row_block hrow hk
    exact b3 k (hfl k (hunF k hk)) (fun cs' f e => by rw [h3] at e; injection e with e; injection e with _ e; exact absurd e (by decide)) (fun e => by rw [e, h6] at h3; injection h3 with h3; injection h3 with _ h3; exact absurd h3 (by decide))
  have hBx : Boxes F W W3 := fun q cs t ht hq he => (b3 q (hfl q hq) (fun cs' f e => by rw [he] at e; injection e with e; injection e with _ e; subst e; exact absurd ht (by decide)) (fun e => by rw [e, h6] at he; injection he with he; injection he with _ he; subst he; exact absurd ht (by decide))).trans he
  replace k2 := (fr3.block _ (by omega) hL2).trans k2
  replace k5 := (fr3.block _ (by omega) hL5).trans k5
  replace x2 := fr3.cell x2 hL2 (by omega)
  have hC3 : CRep W3 (fun k => F k ∨ (W.heap.size ≤ k ∧ k < W3.heap.size)) b (N + 1) L (.note l :: R) un := by
    refine ⟨fun k hk => ?_, fun j hj => .inl (hC.fb j hj), ⟨_, s3, ?_, fun k hk => ?_⟩, hMap hC.m0, hMap hC.m1, hMap hC.m2, hMap hC.m3, hMap hC.m4, hMap hC.m5⟩
    · rcases hk with hk | hk
      · have := hfl k hk
        omega
      · exact hk.2
    · have e1 : lgF (.note l :: R) = lgF R ++ [l] := rfl
      have e2 : lgC (lgF R ++ [l]) = lgC (lgF R) ++ [Value.string l.ad, Value.slice l.tp l.tn l.tc, Value.string l.dt] := by simp [lgC, Lg.c]
      rw [e1, e2, List.length_append]
      exact ro3
    · rcases at3 with h | ⟨q, h, hq⟩
      · exact .inl (hlgF k (h ▸ hk))
      · obtain rfl : q = k := Option.some.inj (h.symm.trans hk)
        obtain ⟨cs, h3⟩ := row_block ro3 hk
        exact .inr ⟨by omega, (Array.getElem?_eq_some_iff.1 h3).1⟩
  have hx3 : unL W3 (fun k => F k ∨ (W.heap.size ≤ k ∧ k < W3.heap.size)) b R xs := hxs.stays hBx fun k hk => .inl hk
  have hv3 : unAt W3 (fun k => F k ∨ (W.heap.size ≤ k ∧ k < W3.heap.size)) b R (.note l) (.func (.func 39) #[] #[.pointer (some ⟨W.heap.size, 0, none⟩), .pointer (some ⟨W.heap.size + 1 + 1, 0, none⟩)]) :=
    ⟨W.heap.size, W.heap.size + 1 + 1, rfl, ⟨.inr ⟨by omega, by omega⟩, k2⟩, ⟨.inr ⟨by omega, by omega⟩, k5⟩⟩
  have hT2 : ¬ (un.ownBlock = some W.heap.size ∨ W.heap.size = b + 6) := fun h => by
    rcases h with h | h
    · have := hfl _ (hunF _ h)
      omega
    · omega
  have hCb := hC.fb 6 (by omega)
  clear hC hxs hrow hrl ro3 at3 hMap hBx h6 hy0 hy1 hy2 hj
  go_wp2
  refine wp_flowU (fun k => ([0, 0, 0, 0, 0, 1, 2, 2, 1, 1, 4] : List Nat).getD k 1) (puR W3 b (Value.slice (some ⟨ql, 0, none⟩) ((lgF R).length + 1) capl) un xs (.func (.func 39) #[] #[.pointer (some ⟨W.heap.size, 0, none⟩), .pointer (some ⟨W.heap.size + 1 + 1, 0, none⟩)])) (fun s => s.st ≤ 2) (⟨0, 0, undef⟩) (⟨Fr.drew (Fr.refl _ _), s3, fun _ => hrow3, fun h => (by cases h), fun h => (by simp at h)⟩) (by decide) (by kernel_rfl) (by kernel_rfl) ?_
  (refine flowU_lateE rfl rfl (fun K hK => ?_); apply Exists.intro; apply And.intro; (focus (intro s0 w' hC hR; have hq := hR.st; rw [if_pos (by first | exact hC | simp)] at hq; obtain ⟨_, _, _, _, _, _, _, e7, _⟩ := hq.cells; have y2 := hR.fr.cell x2 hT2 (by omega); clear hq hR; go_simp; (try go_bits); exact rfl)); go_simp; (try go_bits); refine hK _ ?_; clear hK K)
  (refine flowU_lateE rfl rfl (fun K hK => ?_); apply Exists.intro; apply And.intro; (focus (intro s0 w' hC hR; have hq := hR.st; rw [if_pos (by first | exact hC | simp)] at hq; obtain ⟨_, _, _, _, _, _, _, e7, _⟩ := hq.cells; have y2 := hR.fr.cell x2 hT2 (by omega); clear hq hR; go_simp; (try go_bits); exact rfl)); go_simp; (try go_bits); refine hK _ ?_; clear hK K)
  (refine flowU_lateE rfl rfl (fun K hK => ?_); apply Exists.intro; apply And.intro; (focus (intro s0 w' hC hR; have hq := hR.st; rw [if_pos (by first | exact hC | simp)] at hq; obtain ⟨_, _, _, _, _, _, _, e7, _⟩ := hq.cells; have y2 := hR.fr.cell x2 hT2 (by omega); clear hq hR; go_simp; (try go_bits); exact rfl)); go_simp; (try go_bits); refine hK _ ?_; clear hK K)
  (refine flowU_lateE rfl rfl (fun K hK => ?_); apply Exists.intro; apply And.intro; (focus (intro s0 w' hC hR; have hq := hR.st; rw [if_pos (by first | exact hC | simp)] at hq; obtain ⟨_, _, _, _, _, _, _, e7, _⟩ := hq.cells; have y2 := hR.fr.cell x2 hT2 (by omega); clear hq hR; go_simp; (try go_bits); exact rfl)); go_simp; (try go_bits); refine hK _ ?_; clear hK K)
  (refine flowU_lateE rfl rfl (fun K hK => ?_); apply Exists.intro; apply And.intro; (focus (intro s0 w' hC hR; have hq := hR.st; rw [if_pos (by first | exact hC | simp)] at hq; obtain ⟨_, _, _, _, _, _, _, e7, _⟩ := hq.cells; have y2 := hR.fr.cell x2 hT2 (by omega); clear hq hR; go_simp; (try go_bits); exact rfl)); go_simp; (try go_bits); refine hK _ ?_; clear hK K)
  (refine flowU_readE rfl rfl (fun K hK => ?_); apply Exists.intro; apply And.intro; (focus (intro w' hR; have hq := hR.st; rw [if_pos (by first | exact hC | simp)] at hq; obtain ⟨_, _, _, _, _, _, _, e7, _⟩ := hq.cells; have y2 := hR.fr.cell x2 hT2 (by omega); clear hq hR; go_simp; (try go_bits); exact rfl)); go_simp; (try go_bits); refine hK _ ?_; clear hK K)
  refine flowU_step puPB (by decide) rfl ⟨.slice (some ⟨0, 0, none⟩) 1 1, _, 0, rfl, rfl⟩ (fun w' hR => ?_) (fun _ _ v s2 h => (by obtain ⟨g, _, rfl⟩ := h; exact (by decide : (1 : Nat) ≤ 2))) (fun K hK v s2 hs2 => ?_)
  focus
    have hst' := hR.st
    have hlt' := (Array.getElem?_eq_some_iff.1 (show w'.heap[b + 6]? = _ from hst')).1
    have hfr := hR.fr
    have hro := hR.row (Nat.zero_le _)
    clear hR
    go_simp
    exact ⟨⟨1, w'.heap.size, undef⟩, ⟨_, rfl, rfl⟩, hfr.alloc _, (Below.heap_alloc _ _ _ hlt').trans hst', fun _ => hro.alloc _, fun _ => ⟨hfr.size, heap_new rfl⟩, fun h => (by simp at h)⟩
  obtain ⟨g, rfl, rfl⟩ := hs2
  (go_simp; refine hK _ _ ?_; clear hK K)
  refine flowU_step (puPA (xs.length + 1) g) (by decide) rfl ⟨_, _, 0, 0, rfl, rfl⟩ (fun w' hR => ?_) (fun _ _ v s2 h => (by obtain ⟨_, _, _, rfl⟩ := h; exact (by decide : (2 : Nat) ≤ 2))) (fun K hK v s2 hs2 => ?_)
  focus
    have hst' := hR.st
    have hlt' := (Array.getElem?_eq_some_iff.1 (show w'.heap[b + 6]? = _ from hst')).1
    obtain ⟨hg1, hg2⟩ := hR.one rfl
    have hro := hR.row (Nat.le_refl _)
    have hfr := hR.fr
    clear hR
    have hgc : w'.cell? ⟨g, 0, none⟩ = some (.func (.func 39) #[] #[.pointer (some ⟨W.heap.size, 0, none⟩), .pointer (some ⟨W.heap.size + 1 + 1, 0, none⟩)]) := by
      have hg3 : w'.heap[g]? = _ := hg2
      simp [World.cell?, hg3]
    obtain ⟨v', w2, hr, hown', hgrow, _, hloc⟩ := run_append_own_at (P := Tryd.prog) w' 0 71 71 1 i0 .nilFunc 1 8 Tryd.underlying71 hi hz0 hz1 hz2 rfl (by decide) un xs.length xs hro ⟨g, 0, none⟩ 1 1 [.func (.func 39) #[] #[.pointer (some ⟨W.heap.size, 0, none⟩), .pointer (some ⟨W.heap.size + 1 + 1, 0, none⟩)]] rfl
      (fun j u hj => by
        cases j with
        | zero => simp at hj; subst hj; simpa [Addr.add] using hgc
        | succ j => simp at hj) (by simp [Value.oneCell']) (by unfold maxLen; omega) (by omega) (Nat.zero_le _)
    rw [append_exec (P := Tryd.prog) rfl rfl rfl hr]
    have hne : un.ownBlock ≠ some (b + 6) := fun e => by
      obtain ⟨cs, h3⟩ := row_block hro e
      have h6 : w'.heap[b + 6]? = _ := hst'
      rw [h3] at h6
      injection h6 with h6
      injection h6 with _ h6
      exact absurd h6 (by decide)
    obtain ⟨q, cap, rfl⟩ : ∃ q cap, v' = .slice (some ⟨q, 0, none⟩) (xs.length + 1) cap := by
      rcases hown'.2 with ⟨_, h0⟩ | ⟨q, cap, cur, h0, _⟩
      · simp at h0
      · exact ⟨q, cap, h0⟩
    refine ⟨⟨2, g, _⟩, ⟨q, cap, rfl, rfl⟩, hfr.trans ⟨hgrow.os, hgrow.tape, hgrow.output, hgrow.size, fun k hk hT => hgrow.block k hk fun e => hT (.inl e.symm)⟩, (hgrow.block _ hlt' (fun e => hne e.symm)).trans hst', fun h => (by simp at h), fun h => (by cases h), fun _ => ⟨hown', ?_⟩⟩
    rcases hloc with h | h
    · exact .inl h
    · exact .inr ⟨_, h, hfr.size⟩
  obtain ⟨q, cap, rfl, rfl⟩ := hs2
  (go_simp; refine hK _ _ ?_; clear hK K)
  (refine flowU_readE rfl rfl (fun K hK => ?_); apply Exists.intro; apply And.intro; (focus (intro w' hR; have hq := hR.st; rw [if_pos (by first | exact hC | simp)] at hq; obtain ⟨_, _, _, _, _, _, _, e7, _⟩ := hq.cells; have y2 := hR.fr.cell x2 hT2 (by omega); clear hq hR; go_simp; (try go_bits); exact rfl)); go_simp; (try go_bits); refine hK _ ?_; clear hK K)
  (refine flowU_readE rfl rfl (fun K hK => ?_); apply Exists.intro; apply And.intro; (focus (intro w' hR; have hq := hR.st; rw [if_pos (by first | exact hC | simp)] at hq; obtain ⟨_, _, _, _, _, _, _, e7, _⟩ := hq.cells; have y2 := hR.fr.cell x2 hT2 (by omega); clear hq hR; go_simp; (try go_bits); exact rfl)); go_simp; (try go_bits); refine hK _ ?_; clear hK K)
  refine flowU_step (puPC g (Value.slice (some ⟨q, 0, none⟩) (xs.length + 1) cap)) (by decide) rfl ⟨undef, _, rfl, rfl⟩ (fun w' hR => ?_) (fun h => absurd rfl h) (fun K hK v s2 hs2 => ?_)
  focus
    have hst' := hR.st
    rw [if_pos (by simp)] at hst'
    have hlt' := (Array.getElem?_eq_some_iff.1 (show w'.heap[b + 6]? = _ from hst')).1
    obtain ⟨_, _, _, _, _, _, _, d7, ff⟩ := hst'.cells
    have f7 := ff 7
    obtain ⟨n1, n2⟩ := hR.new (Nat.le_refl _)
    have hfr := hR.fr
    clear hR ff
    dsimp only at n1 n2
    have hne : ((Value.slice (some ⟨q, 0, none⟩) (xs.length + 1) cap)).ownBlock ≠ some (b + 6) := fun e => by
      obtain ⟨cs, h3⟩ := row_block n1 e
      have h6 : w'.heap[b + 6]? = _ := hst'
      rw [h3] at h6
      injection h6 with h6
      injection h6 with _ h6
      exact absurd h6 (by decide)
    go_simp
    exact ⟨⟨3, g, (Value.slice (some ⟨q, 0, none⟩) (xs.length + 1) cap)⟩, ⟨rfl, rfl⟩, hfr.setCell (.inl (.inr rfl)) _, hst'.set _, fun h => (by simp at h), fun h => (by simp at h), fun _ => ⟨ownsRow_same n1 fun k hk => heap_set_ne (fun e => hne (e ▸ hk)), n2⟩⟩
  obtain ⟨rfl, rfl⟩ := hs2
  (go_simp; refine hK _ _ ?_; clear hK K)
  refine flowU_nil ?_
  intro W4 hR4
  have fr4 := hR4.fr
  have st4 := hR4.st
  rw [if_neg (by simp)] at st4
  dsimp only at st4
  obtain ⟨ro4, at4⟩ := hR4.new (by simp)
  clear hR4
  have sz4 := fr4.size
  have f4 : Fr F W W4 := f3.trans ⟨fr4.os, fr4.tape, fr4.output, fr4.size, fun k hk hT => fr4.block k hk (fun e => hT (by
    rcases e with e | e
    · exact hunF k e
    · rw [e]; exact hCb))⟩
  have fin := push_done (F' := fun k => F k ∨ (W.heap.size ≤ k ∧ k < W4.heap.size)) hC3 s3 hrow3 (fun k hk => .inl (hunF k hk)) hx3 hv3 fr4 st4 ro4 at4 (fun k hk => by
    rcases hk with hk | hk
    · exact .inl hk
    · exact .inr ⟨hk.1, Nat.lt_of_lt_of_le hk.2 sz4⟩) (fun k h1 h2 => .inr ⟨by omega, h2⟩) (fun k hk => by
    rcases hk with hk | hk
    · have := hfl k hk
      omega
    · exact hk.2)
  clear hC3 hrow3 hx3 hv3 ro4 st4 at4 fr4
  go_wp2
  go_ret
  exact ⟨rfl, _, fin, f4, fun k hk => .inl hk, fun k hk => hk.imp id (fun h => h.1)⟩
end
end Go.Proofs.YtcdjdnbdblpofaaDoor
