/-
  Warm: its contract. Conditions: the state is one.
-/
import Derived.Test.YtcdjdnbdblpofaaDoorPL22
import Derived.Test.YtcdjdnbdblpofaaDoorPL23
namespace Go.Proofs.YtcdjdnbdblpofaaDoor
open Go.RowKit Go.Maps
attribute [local go_sem] leftBy leaves
set_option linter.unusedSimpArgs false
set_option linter.unusedVariables false


section
variable {W : World} {F : Nat → Prop} {b N : Nat} {L : List Kw} {R : List Chg}

set_option maxRecDepth 100000 in
set_option maxHeartbeats 8000000 in
theorem Warm_old (h : SRep W F b N L R) {a : ByteArray} (ha : okT a) (hw : wmF R a = true) :
    Calls Tryd.prog 23 #[ptr (b + 6), .string a] W (muPost W F b (N + 1) L R (.bool true)) := by
  have hfl := h.flt
  have hS := fun (w' : World) (hs : W.heap.size ≤ w'.heap.size) (hb : ∀ k, F k → w'.heap[k]? = W.heap[k]?) => h.same hs hb
  obtain ⟨un, hC, hu⟩ := h
  obtain ⟨lg, s1, hrl, hlgF⟩ := hC.st
  have hlt := s1.lt
  have hl := hC.m4.look1 keyT Tryd.underlying69 zeroB a ha
  rw [hw] at hl
  clear hw
  have b1 : Below W.heap.size W ((W.alloc (.cells #[.pointer (some ⟨b + 6, 0, none⟩)] 27)).alloc (.cells #[.string a] 9)) := ((Below.refl _ W).alloc (Nat.le_refl _) _).alloc (by simp) _
  have k2 : ((W.alloc (.cells #[.pointer (some ⟨b + 6, 0, none⟩)] 27)).alloc (.cells #[.string a] 9)).heap[W.heap.size]? = _ := (Below.heap_alloc _ _ _ (by simp)).trans (heap_new rfl)
  have k3 : ((W.alloc (.cells #[.pointer (some ⟨b + 6, 0, none⟩)] 27)).alloc (.cells #[.string a] 9)).heap[W.heap.size + 1]? = _ := heap_new (by simp)
  have z1 : W.heap.size + 2 ≤ ((W.alloc (.cells #[.pointer (some ⟨b + 6, 0, none⟩)] 27)).alloc (.cells #[.string a] 9)).heap.size := by simp
  unfold ptr
  go_enter Tryd.func23, Tryd.ntmps23
  go_wp2
  generalize (W.alloc (.cells #[.pointer (some ⟨b + 6, 0, none⟩)] 27)).alloc (.cells #[.string a] 9) = W1 at *
  have s1' : stA W1 b lg un := (b1.block _ hlt).trans s1
  have hl1 := Lib.hid fun W' (e : W'.heap[b + 4]? = W1.heap[b + 4]?) => hl W' (e.trans (b1.block _ (by omega)))
  clear hl
  obtain ⟨_, _, _, _, d4, _⟩ := s1'.cells
  have x2 : W1.cell? ⟨W.heap.size, 0, none⟩ = some (.pointer (some ⟨b + 6, 0, none⟩)) := by simp [World.cell?, k2]
  have x3 : W1.cell? ⟨W.heap.size + 1, 0, none⟩ = some (.string a) := by simp [World.cell?, k3]
  refine wp_flowU (fun k => ([1, 1, 1, 1, 1, 1, 1, 1, 1, 1] : List Nat).getD k 1) (fun (_ : Unit) w' => Fr (fun _ => False) W1 w') (fun _ => True) (()) (Fr.drew (Fr.refl _ _)) trivial (by kernel_rfl) (by kernel_rfl) ?_
  (refine flowU_readE rfl rfl (fun K hK => ?_); apply Exists.intro; apply And.intro; (focus (intro w' hR; have y2 := hR.cell x2 id (by omega); have y3 := hR.cell x3 id (by omega); have y4 := hR.cell d4 id (by omega); have hlw := hl1.out w' (hR.block _ (by omega) id); clear hR; go_simp; (try go_bits); exact rfl)); go_simp; (try go_bits); refine hK _ ?_; clear hK K)
  (refine flowU_readE rfl rfl (fun K hK => ?_); apply Exists.intro; apply And.intro; (focus (intro w' hR; have y2 := hR.cell x2 id (by omega); have y3 := hR.cell x3 id (by omega); have y4 := hR.cell d4 id (by omega); have hlw := hl1.out w' (hR.block _ (by omega) id); clear hR; go_simp; (try go_bits); exact rfl)); go_simp; (try go_bits); refine hK _ ?_; clear hK K)
  (refine flowU_readE rfl rfl (fun K hK => ?_); apply Exists.intro; apply And.intro; (focus (intro w' hR; have y2 := hR.cell x2 id (by omega); have y3 := hR.cell x3 id (by omega); have y4 := hR.cell d4 id (by omega); have hlw := hl1.out w' (hR.block _ (by omega) id); clear hR; go_simp; (try go_bits); exact rfl)); go_simp; (try go_bits); refine hK _ ?_; clear hK K)
  first | (refine flowU_skip rfl (fun K hK => ?_); go_simp; (try go_bits); refine hK _ ?_; clear hK K) | (refine flowU_readE rfl rfl (fun K hK => ?_); apply Exists.intro; apply And.intro; (focus (intro w' hR; have y2 := hR.cell x2 id (by omega); have y3 := hR.cell x3 id (by omega); have y4 := hR.cell d4 id (by omega); have hlw := hl1.out w' (hR.block _ (by omega) id); clear hR; go_simp; (try go_bits); exact rfl)); go_simp; (try go_bits); refine hK _ ?_; clear hK K)
  first | (refine flowU_skip rfl (fun K hK => ?_); go_simp; (try go_bits); refine hK _ ?_; clear hK K) | (refine flowU_readE rfl rfl (fun K hK => ?_); apply Exists.intro; apply And.intro; (focus (intro w' hR; have y2 := hR.cell x2 id (by omega); have y3 := hR.cell x3 id (by omega); have y4 := hR.cell d4 id (by omega); have hlw := hl1.out w' (hR.block _ (by omega) id); clear hR; go_simp; (try go_bits); exact rfl)); go_simp; (try go_bits); refine hK _ ?_; clear hK K)
  first | (refine flowU_skip rfl (fun K hK => ?_); go_simp; (try go_bits); refine hK _ ?_; clear hK K) | (refine flowU_readE rfl rfl (fun K hK => ?_); apply Exists.intro; apply And.intro; (focus (intro w' hR; have y2 := hR.cell x2 id (by omega); have y3 := hR.cell x3 id (by omega); have y4 := hR.cell d4 id (by omega); have hlw := hl1.out w' (hR.block _ (by omega) id); clear hR; go_simp; (try go_bits); exact rfl)); go_simp; (try go_bits); refine hK _ ?_; clear hK K)
  first | (refine flowU_skip rfl (fun K hK => ?_); go_simp; (try go_bits); refine hK _ ?_; clear hK K) | (refine flowU_readE rfl rfl (fun K hK => ?_); apply Exists.intro; apply And.intro; (focus (intro w' hR; have y2 := hR.cell x2 id (by omega); have y3 := hR.cell x3 id (by omega); have y4 := hR.cell d4 id (by omega); have hlw := hl1.out w' (hR.block _ (by omega) id); clear hR; go_simp; (try go_bits); exact rfl)); go_simp; (try go_bits); refine hK _ ?_; clear hK K)
  first | (refine flowU_skip rfl (fun K hK => ?_); go_simp; (try go_bits); refine hK _ ?_; clear hK K) | (refine flowU_readE rfl rfl (fun K hK => ?_); apply Exists.intro; apply And.intro; (focus (intro w' hR; have y2 := hR.cell x2 id (by omega); have y3 := hR.cell x3 id (by omega); have y4 := hR.cell d4 id (by omega); have hlw := hl1.out w' (hR.block _ (by omega) id); clear hR; go_simp; (try go_bits); exact rfl)); go_simp; (try go_bits); refine hK _ ?_; clear hK K)
  first | (refine flowU_skip rfl (fun K hK => ?_); go_simp; (try go_bits); refine hK _ ?_; clear hK K) | (refine flowU_readE rfl rfl (fun K hK => ?_); apply Exists.intro; apply And.intro; (focus (intro w' hR; have y2 := hR.cell x2 id (by omega); have y3 := hR.cell x3 id (by omega); have y4 := hR.cell d4 id (by omega); have hlw := hl1.out w' (hR.block _ (by omega) id); clear hR; go_simp; (try go_bits); exact rfl)); go_simp; (try go_bits); refine hK _ ?_; clear hK K)
  (refine flowU_readE rfl rfl (fun K hK => ?_); apply Exists.intro; apply And.intro; (focus (intro w' hR; have y2 := hR.cell x2 id (by omega); have y3 := hR.cell x3 id (by omega); have y4 := hR.cell d4 id (by omega); have hlw := hl1.out w' (hR.block _ (by omega) id); clear hR; go_simp; (try go_bits); exact rfl)); go_simp; (try go_bits); refine hK _ ?_; clear hK K)
  refine flowU_nil ?_
  intro w' hR
  have y2 := hR.cell x2 id (by omega)
  go_wp2
  go_ret
  exact ⟨rfl, F, (hS w' (Nat.le_trans (by omega) hR.size) (fun k hk => (hR.block k (by have := hfl k hk; omega) id).trans (b1.block k (hfl k hk)))).mono (fun _ h => h) (by omega) (fun k hk => by have := hfl k hk; have := hR.size; omega), ((Fr.refl _ W).below b1).trans ⟨hR.os, hR.tape, hR.output, hR.size, fun k hk _ => hR.block k hk id⟩, fun _ h => h, fun _ h => .inl h⟩

set_option maxRecDepth 100000 in
set_option maxHeartbeats 16000000 in
theorem Warm_new (h : SRep W F b N L R) {a : ByteArray} (ha : okT a) (hw : wmF R a = false) (hRl : R.length ≤ 1000000) (hN : N ≤ 1000000) :
    Calls Tryd.prog 23 #[ptr (b + 6), .string a] W (muPost W F b (N + 1) L (.warm a :: R) (.bool false)) := by
  have hfl := h.flt
  obtain ⟨un, hC, xs, hrow, hunF, hxs⟩ := h
  obtain ⟨lg, s1, hrl, hlgF⟩ := hC.st
  obtain ⟨i0, hi, hz0, hz1, hz2⟩ := info_parts infoF
  have hxl := Lib.hid hxs.length
  have hxl2 : xs.length ≤ 1000000 := by rw [hxl.out]; exact hRl
  have hlt := s1.lt
  have hl := hC.m4.look1 keyT Tryd.underlying69 zeroB a ha
  rw [hw] at hl
  have b1 : Below W.heap.size W ((W.alloc (.cells #[.pointer (some ⟨b + 6, 0, none⟩)] 27)).alloc (.cells #[.string a] 9)) := ((Below.refl _ W).alloc (Nat.le_refl _) _).alloc (by simp) _
  have k2 : ((W.alloc (.cells #[.pointer (some ⟨b + 6, 0, none⟩)] 27)).alloc (.cells #[.string a] 9)).heap[W.heap.size]? = _ := (Below.heap_alloc _ _ _ (by simp)).trans (heap_new rfl)
  have k3 : ((W.alloc (.cells #[.pointer (some ⟨b + 6, 0, none⟩)] 27)).alloc (.cells #[.string a] 9)).heap[W.heap.size + 1]? = _ := heap_new (by simp)
  have z1 : W.heap.size + 2 ≤ ((W.alloc (.cells #[.pointer (some ⟨b + 6, 0, none⟩)] 27)).alloc (.cells #[.string a] 9)).heap.size := by simp
  unfold ptr
  go_enter Tryd.func23, Tryd.ntmps23
  go_wp2
  generalize (W.alloc (.cells #[.pointer (some ⟨b + 6, 0, none⟩)] 27)).alloc (.cells #[.string a] 9) = W1 at *
  have s1' : stA W1 b lg un := (b1.block _ hlt).trans s1
  have hl1 := Lib.hid fun W' (e : W'.heap[b + 4]? = W1.heap[b + 4]?) => hl W' (e.trans (b1.block _ (by omega)))
  clear hl
  obtain ⟨_, _, _, _, d4, _, _, d7, _⟩ := s1'.cells
  have x2 : W1.cell? ⟨W.heap.size, 0, none⟩ = some (.pointer (some ⟨b + 6, 0, none⟩)) := by simp [World.cell?, k2]
  have x3 : W1.cell? ⟨W.heap.size + 1, 0, none⟩ = some (.string a) := by simp [World.cell?, k3]
  refine wp_flowU (fun k => ([1, 1, 1, 1, 1, 1, 1, 1, 1, 1] : List Nat).getD k 1) (fun (_ : Unit) w' => Fr (fun _ => False) W1 w') (fun _ => True) (()) (Fr.drew (Fr.refl _ _)) trivial (by kernel_rfl) (by kernel_rfl) ?_
  (refine flowU_readE rfl rfl (fun K hK => ?_); apply Exists.intro; apply And.intro; (focus (intro w' hR; have y2 := hR.cell x2 id (by omega); have y3 := hR.cell x3 id (by omega); have y4 := hR.cell d4 id (by omega); have hlw := hl1.out w' (hR.block _ (by omega) id); clear hR; go_simp; (try go_bits); exact rfl)); go_simp; (try go_bits); refine hK _ ?_; clear hK K)
  (refine flowU_readE rfl rfl (fun K hK => ?_); apply Exists.intro; apply And.intro; (focus (intro w' hR; have y2 := hR.cell x2 id (by omega); have y3 := hR.cell x3 id (by omega); have y4 := hR.cell d4 id (by omega); have hlw := hl1.out w' (hR.block _ (by omega) id); clear hR; go_simp; (try go_bits); exact rfl)); go_simp; (try go_bits); refine hK _ ?_; clear hK K)
  (refine flowU_readE rfl rfl (fun K hK => ?_); apply Exists.intro; apply And.intro; (focus (intro w' hR; have y2 := hR.cell x2 id (by omega); have y3 := hR.cell x3 id (by omega); have y4 := hR.cell d4 id (by omega); have hlw := hl1.out w' (hR.block _ (by omega) id); clear hR; go_simp; (try go_bits); exact rfl)); go_simp; (try go_bits); refine hK _ ?_; clear hK K)
  first | (refine flowU_skip rfl (fun K hK => ?_); go_simp; (try go_bits); refine hK _ ?_; clear hK K) | (refine flowU_readE rfl rfl (fun K hK => ?_); apply Exists.intro; apply And.intro; (focus (intro w' hR; have y2 := hR.cell x2 id (by omega); have y3 := hR.cell x3 id (by omega); have y4 := hR.cell d4 id (by omega); have hlw := hl1.out w' (hR.block _ (by omega) id); clear hR; go_simp; (try go_bits); exact rfl)); go_simp; (try go_bits); refine hK _ ?_; clear hK K)
  first | (refine flowU_skip rfl (fun K hK => ?_); go_simp; (try go_bits); refine hK _ ?_; clear hK K) | (refine flowU_readE rfl rfl (fun K hK => ?_); apply Exists.intro; apply And.intro; (focus (intro w' hR; have y2 := hR.cell x2 id (by omega); have y3 := hR.cell x3 id (by omega); have y4 := hR.cell d4 id (by omega); have hlw := hl1.out w' (hR.block _ (by omega) id); clear hR; go_simp; (try go_bits); exact rfl)); go_simp; (try go_bits); refine hK _ ?_; clear hK K)
  first | (refine flowU_skip rfl (fun K hK => ?_); go_simp; (try go_bits); refine hK _ ?_; clear hK K) | (refine flowU_readE rfl rfl (fun K hK => ?_); apply Exists.intro; apply And.intro; (focus (intro w' hR; have y2 := hR.cell x2 id (by omega); have y3 := hR.cell x3 id (by omega); have y4 := hR.cell d4 id (by omega); have hlw := hl1.out w' (hR.block _ (by omega) id); clear hR; go_simp; (try go_bits); exact rfl)); go_simp; (try go_bits); refine hK _ ?_; clear hK K)
  first | (refine flowU_skip rfl (fun K hK => ?_); go_simp; (try go_bits); refine hK _ ?_; clear hK K) | (refine flowU_readE rfl rfl (fun K hK => ?_); apply Exists.intro; apply And.intro; (focus (intro w' hR; have y2 := hR.cell x2 id (by omega); have y3 := hR.cell x3 id (by omega); have y4 := hR.cell d4 id (by omega); have hlw := hl1.out w' (hR.block _ (by omega) id); clear hR; go_simp; (try go_bits); exact rfl)); go_simp; (try go_bits); refine hK _ ?_; clear hK K)
  first | (refine flowU_skip rfl (fun K hK => ?_); go_simp; (try go_bits); refine hK _ ?_; clear hK K) | (refine flowU_readE rfl rfl (fun K hK => ?_); apply Exists.intro; apply And.intro; (focus (intro w' hR; have y2 := hR.cell x2 id (by omega); have y3 := hR.cell x3 id (by omega); have y4 := hR.cell d4 id (by omega); have hlw := hl1.out w' (hR.block _ (by omega) id); clear hR; go_simp; (try go_bits); exact rfl)); go_simp; (try go_bits); refine hK _ ?_; clear hK K)
  first | (refine flowU_skip rfl (fun K hK => ?_); go_simp; (try go_bits); refine hK _ ?_; clear hK K) | (refine flowU_readE rfl rfl (fun K hK => ?_); apply Exists.intro; apply And.intro; (focus (intro w' hR; have y2 := hR.cell x2 id (by omega); have y3 := hR.cell x3 id (by omega); have y4 := hR.cell d4 id (by omega); have hlw := hl1.out w' (hR.block _ (by omega) id); clear hR; go_simp; (try go_bits); exact rfl)); go_simp; (try go_bits); refine hK _ ?_; clear hK K)
  (refine flowU_readE rfl rfl (fun K hK => ?_); apply Exists.intro; apply And.intro; (focus (intro w' hR; have y2 := hR.cell x2 id (by omega); have y3 := hR.cell x3 id (by omega); have y4 := hR.cell d4 id (by omega); have hlw := hl1.out w' (hR.block _ (by omega) id); clear hR; go_simp; (try go_bits); exact rfl)); go_simp; (try go_bits); refine hK _ ?_; clear hK K)
  refine flowU_nil ?_
  intro W2 hR2
  have sz2 := hR2.size
  have b2 : ∀ k, k < W.heap.size → W2.heap[k]? = W.heap[k]? := fun k hk => (hR2.block k (by omega) id).trans (b1.block k hk)
  replace k2 := (hR2.block _ (by omega) id).trans k2
  replace k3 := (hR2.block _ (by omega) id).trans k3
  replace x2 := hR2.cell x2 id (by omega)
  replace x3 := hR2.cell x3 id (by omega)
  replace d4 := hR2.cell d4 id (by omega)
  have f2 : Fr F W W2 := ((Fr.refl _ W).below b1).trans ⟨hR2.os, hR2.tape, hR2.output, hR2.size, fun k hk _ => hR2.block k hk id⟩
  have m4 := hC.m4.at_block (b2 _ (by omega))
  clear hl1 s1' b1 hR2
  go_wp2
  refine wp_flowU (fun k => ([1, 1, 1, 1, 1, 2] : List Nat).getD k 1) (mpV W2 9 Value.string okT (b + 4) N (.bool false) (fun a => if wmF R a then some (.bool true) else none) (fun c => if c = a then some (.bool true) else if wmF R c then some (.bool true) else none)) (fun _ => True) (false) (⟨Fr.drew (Fr.refl _ _), m4⟩) trivial (by kernel_rfl) (by kernel_rfl) ?_
  (refine flowU_readE rfl rfl (fun K hK => ?_); apply Exists.intro; apply And.intro; (focus (intro w' hR; have y2 := hR.fr.cell x2 (by omega) (by omega); have y3 := hR.fr.cell x3 (by omega) (by omega); have y4 := hR.fr.cell d4 (by omega) (by omega); clear hR; go_simp; (try go_bits); exact rfl)); go_simp; (try go_bits); refine hK _ ?_; clear hK K)
  (refine flowU_readE rfl rfl (fun K hK => ?_); apply Exists.intro; apply And.intro; (focus (intro w' hR; have y2 := hR.fr.cell x2 (by omega) (by omega); have y3 := hR.fr.cell x3 (by omega) (by omega); have y4 := hR.fr.cell d4 (by omega) (by omega); clear hR; go_simp; (try go_bits); exact rfl)); go_simp; (try go_bits); refine hK _ ?_; clear hK K)
  (refine flowU_readE rfl rfl (fun K hK => ?_); apply Exists.intro; apply And.intro; (focus (intro w' hR; have y2 := hR.fr.cell x2 (by omega) (by omega); have y3 := hR.fr.cell x3 (by omega) (by omega); have y4 := hR.fr.cell d4 (by omega) (by omega); clear hR; go_simp; (try go_bits); exact rfl)); go_simp; (try go_bits); refine hK _ ?_; clear hK K)
  (refine flowU_readE rfl rfl (fun K hK => ?_); apply Exists.intro; apply And.intro; (focus (intro w' hR; have y2 := hR.fr.cell x2 (by omega) (by omega); have y3 := hR.fr.cell x3 (by omega) (by omega); have y4 := hR.fr.cell d4 (by omega) (by omega); clear hR; go_simp; (try go_bits); exact rfl)); go_simp; (try go_bits); refine hK _ ?_; clear hK K)
  (refine flowU_readE rfl rfl (fun K hK => ?_); apply Exists.intro; apply And.intro; (focus (intro w' hR; have y2 := hR.fr.cell x2 (by omega) (by omega); have y3 := hR.fr.cell x3 (by omega) (by omega); have y4 := hR.fr.cell d4 (by omega) (by omega); clear hR; go_simp; (try go_bits); exact rfl)); go_simp; (try go_bits); refine hK _ ?_; clear hK K)
  refine flowU_step (fun v s => v = undef ∧ s = true) (by decide) rfl ⟨undef, true, rfl, rfl⟩ (fun w' hR => ?_) (fun _ _ _ _ _ => trivial) (fun K hK v s2 hs2 => ?_)
  focus
    have hm := hR.now
    rw [if_neg (by simp)] at hm
    obtain ⟨w2, hrun, hm2, hgr⟩ := hm.put keyT Tryd.underlying69 (by unfold maxLen; omega) a ha (.bool true)
    have hfr := hR.fr
    clear hR hm
    go_simp
    exact ⟨hfr.trans ⟨hgr.os, hgr.tape, hgr.output, hgr.size, fun j hj hT => hgr.block j hj (by simpa using hT)⟩, by rw [if_pos rfl]; exact hm2⟩
  obtain ⟨rfl, rfl⟩ := hs2
  (go_simp; refine hK _ _ ?_; clear hK K)
  refine flowU_nil ?_
  intro W3 hR3
  have n4 := hR3.now
  rw [if_pos rfl] at n4
  have fr3 := hR3.fr
  clear hR3
  have sz3 := fr3.size
  have b3 : ∀ k, k < W.heap.size → k ≠ b + 4 → W3.heap[k]? = W.heap[k]? := fun k hk hn => (fr3.block k (by omega) hn).trans (b2 k hk)
  replace k2 := (fr3.block _ (by omega) (by omega)).trans k2
  replace k3 := (fr3.block _ (by omega) (by omega)).trans k3
  replace x2 := fr3.cell x2 (by omega) (by omega)
  replace x3 := fr3.cell x3 (by omega) (by omega)
  have f3 : Fr F W W3 := f2.trans ⟨fr3.os, fr3.tape, fr3.output, fr3.size, fun k hk hT => fr3.block k hk (fun e => hT (by rw [e]; exact hC.fb 4 (by omega)))⟩
  have s3 : stA W3 b lg un := (b3 _ hlt (by omega)).trans s1
  obtain ⟨es4, cl4, hm4⟩ := hC.m4.isMap
  have hrow3 : W3.ownsRow 0 1 1 un xs.length xs := by
    rw [hxl.out]
    refine ownsRow_same hrow fun k hk => b3 k (hfl k (hunF k hk)) ?_
    obtain ⟨cs, h3⟩ := row_block hrow hk
    exact map_ne h3 hm4
  have hC3 : CRep W3 (fun k => F k ∨ (W.heap.size ≤ k ∧ k < W3.heap.size)) b (N + 1) L (.warm a :: R) un := by
    have hj := fun j (h1 : j ≤ 6) (h2 : j ≠ 4) => b3 (b + j) (by omega) (by omega)
    refine ⟨fun k hk => ?_, fun j hj => .inl (hC.fb j hj), ⟨lg, s3, ownsRow_same hrl fun k hk => ?_, fun k hk => .inl (hlgF k hk)⟩, (hC.m0.at_block (hj 0 (by omega) (by omega))).mono (by omega), (hC.m1.at_block (hj 1 (by omega) (by omega))).mono (by omega), (hC.m2.at_block (hj 2 (by omega) (by omega))).mono (by omega), (hC.m3.at_block (hj 3 (by omega) (by omega))).mono (by omega), ?_, (hC.m5.at_block (hj 5 (by omega) (by omega))).mono (by omega)⟩
    · rcases hk with hk | hk
      · have := hfl k hk
        omega
      · exact hk.2
    · obtain ⟨cs, h3⟩ := row_block hrl hk
      exact b3 k (hfl k (hlgF k hk)) (map_ne h3 hm4)
    · refine n4.ext fun c _ => ?_
      show _ = if wmF (.warm a :: R) c then some (Value.bool true) else none
      by_cases e : c = a
      · simp [wmF, e]
      · simp [wmF, e]
  have hx3 : unL W3 (fun k => F k ∨ (W.heap.size ≤ k ∧ k < W3.heap.size)) b R xs := hxs.stays (fun q cs t ht hq he => (b3 q (hfl q hq) (map_ne he hm4)).trans he) fun k hk => .inl hk
  have hv3 : unAt W3 (fun k => F k ∨ (W.heap.size ≤ k ∧ k < W3.heap.size)) b R (.warm a) (.func (.func 41) #[] #[.pointer (some ⟨W.heap.size, 0, none⟩), .pointer (some ⟨W.heap.size + 1, 0, none⟩)]) :=
    ⟨W.heap.size, W.heap.size + 1, rfl, ⟨.inr ⟨by omega, by omega⟩, k2⟩, ⟨.inr ⟨by omega, by omega⟩, k3⟩⟩
  have hT2 : ¬ (un.ownBlock = some W.heap.size ∨ W.heap.size = b + 6) := fun h => by
    rcases h with h | h
    · have := hfl _ (hunF _ h)
      omega
    · omega
  have hT3 : ¬ (un.ownBlock = some (W.heap.size + 1) ∨ W.heap.size + 1 = b + 6) := fun h => by
    rcases h with h | h
    · have := hfl _ (hunF _ h)
      omega
    · omega
  have hCb := hC.fb 6 (by omega)
  clear m4 n4 d4 d7 hC hxs hrow b2 f2 hrl hw
  go_wp2
  refine wp_flowU (fun k => ([0, 0, 0, 0, 0, 1, 2, 2, 1, 1, 4] : List Nat).getD k 1) (puR W3 b lg un xs (.func (.func 41) #[] #[.pointer (some ⟨W.heap.size, 0, none⟩), .pointer (some ⟨W.heap.size + 1, 0, none⟩)])) (fun s => s.st ≤ 2) (⟨0, 0, undef⟩) (⟨Fr.drew (Fr.refl _ _), s3, fun _ => hrow3, fun h => (by cases h), fun h => (by simp at h)⟩) (by decide) (by kernel_rfl) (by kernel_rfl) ?_
  (refine flowU_lateE rfl rfl (fun K hK => ?_); apply Exists.intro; apply And.intro; (focus (intro s0 w' hC hR; have hq := hR.st; rw [if_pos (by first | exact hC | simp)] at hq; obtain ⟨_, _, _, _, _, _, _, e7, _⟩ := hq.cells; have y2 := hR.fr.cell x2 hT2 (by omega); have y3 := hR.fr.cell x3 hT3 (by omega); clear hq hR; go_simp; (try go_bits); exact rfl)); go_simp; (try go_bits); refine hK _ ?_; clear hK K)
  (refine flowU_lateE rfl rfl (fun K hK => ?_); apply Exists.intro; apply And.intro; (focus (intro s0 w' hC hR; have hq := hR.st; rw [if_pos (by first | exact hC | simp)] at hq; obtain ⟨_, _, _, _, _, _, _, e7, _⟩ := hq.cells; have y2 := hR.fr.cell x2 hT2 (by omega); have y3 := hR.fr.cell x3 hT3 (by omega); clear hq hR; go_simp; (try go_bits); exact rfl)); go_simp; (try go_bits); refine hK _ ?_; clear hK K)
  (refine flowU_lateE rfl rfl (fun K hK => ?_); apply Exists.intro; apply And.intro; (focus (intro s0 w' hC hR; have hq := hR.st; rw [if_pos (by first | exact hC | simp)] at hq; obtain ⟨_, _, _, _, _, _, _, e7, _⟩ := hq.cells; have y2 := hR.fr.cell x2 hT2 (by omega); have y3 := hR.fr.cell x3 hT3 (by omega); clear hq hR; go_simp; (try go_bits); exact rfl)); go_simp; (try go_bits); refine hK _ ?_; clear hK K)
  (refine flowU_lateE rfl rfl (fun K hK => ?_); apply Exists.intro; apply And.intro; (focus (intro s0 w' hC hR; have hq := hR.st; rw [if_pos (by first | exact hC | simp)] at hq; obtain ⟨_, _, _, _, _, _, _, e7, _⟩ := hq.cells; have y2 := hR.fr.cell x2 hT2 (by omega); have y3 := hR.fr.cell x3 hT3 (by omega); clear hq hR; go_simp; (try go_bits); exact rfl)); go_simp; (try go_bits); refine hK _ ?_; clear hK K)
  (refine flowU_lateE rfl rfl (fun K hK => ?_); apply Exists.intro; apply And.intro; (focus (intro s0 w' hC hR; have hq := hR.st; rw [if_pos (by first | exact hC | simp)] at hq; obtain ⟨_, _, _, _, _, _, _, e7, _⟩ := hq.cells; have y2 := hR.fr.cell x2 hT2 (by omega); have y3 := hR.fr.cell x3 hT3 (by omega); clear hq hR; go_simp; (try go_bits); exact rfl)); go_simp; (try go_bits); refine hK _ ?_; clear hK K)
  (refine flowU_readE rfl rfl (fun K hK => ?_); apply Exists.intro; apply And.intro; (focus (intro w' hR; have hq := hR.st; rw [if_pos (by first | exact hC | simp)] at hq; obtain ⟨_, _, _, _, _, _, _, e7, _⟩ := hq.cells; have y2 := hR.fr.cell x2 hT2 (by omega); have y3 := hR.fr.cell x3 hT3 (by omega); clear hq hR; go_simp; (try go_bits); exact rfl)); go_simp; (try go_bits); refine hK _ ?_; clear hK K)
  refine flowU_step puPB (by decide) rfl ⟨.slice (some ⟨0, 0, none⟩) 1 1, _, 0, rfl, rfl⟩ (fun w' hR => ?_) (fun _ _ v s2 h => (by obtain ⟨g, _, rfl⟩ := h; exact (by decide : (1 : Nat) ≤ 2))) (fun K hK v s2 hs2 => ?_)
  focus
    have hst' := hR.st
    have hlt' := (Array.getElem?_eq_some_iff.1 (show w'.heap[b + 6]? = _ from hst')).1
    have hfr := hR.fr
    have hro := hR.row (Nat.zero_le _)
    clear hR
    go_simp
    exact ⟨⟨1, w'.heap.size, undef⟩, ⟨_, rfl, rfl⟩, hfr.alloc _, (Below.heap_alloc _ _ _ hlt').trans hst', fun _ => hro.alloc _, fun _ => ⟨hfr.size, heap_new rfl⟩, fun h => (by simp at h)⟩
  obtain ⟨g, rfl, rfl⟩ := hs2
  (go_simp; refine hK _ _ ?_; clear hK K)
  refine flowU_step (puPA (xs.length + 1) g) (by decide) rfl ⟨_, _, 0, 0, rfl, rfl⟩ (fun w' hR => ?_) (fun _ _ v s2 h => (by obtain ⟨_, _, _, rfl⟩ := h; exact (by decide : (2 : Nat) ≤ 2))) (fun K hK v s2 hs2 => ?_)
  focus
    have hst' := hR.st
    have hlt' := (Array.getElem?_eq_some_iff.1 (show w'.heap[b + 6]? = _ from hst')).1
    obtain ⟨hg1, hg2⟩ := hR.one rfl
    have hro := hR.row (Nat.le_refl _)
    have hfr := hR.fr
    clear hR
    have hgc : w'.cell? ⟨g, 0, none⟩ = some (.func (.func 41) #[] #[.pointer (some ⟨W.heap.size, 0, none⟩), .pointer (some ⟨W.heap.size + 1, 0, none⟩)]) := by
      have hg3 : w'.heap[g]? = _ := hg2
      simp [World.cell?, hg3]
    obtain ⟨v', w2, hr, hown', hgrow, _, hloc⟩ := run_append_own_at (P := Tryd.prog) w' 0 71 71 1 i0 .nilFunc 1 8 Tryd.underlying71 hi hz0 hz1 hz2 rfl (by decide) un xs.length xs hro ⟨g, 0, none⟩ 1 1 [.func (.func 41) #[] #[.pointer (some ⟨W.heap.size, 0, none⟩), .pointer (some ⟨W.heap.size + 1, 0, none⟩)]] rfl
      (fun j u hj => by
        cases j with
        | zero => simp at hj; subst hj; simpa [Addr.add] using hgc
        | succ j => simp at hj) (by simp [Value.oneCell']) (by unfold maxLen; omega) (by omega) (Nat.zero_le _)
    rw [append_exec (P := Tryd.prog) rfl rfl rfl hr]
    have hne : un.ownBlock ≠ some (b + 6) := fun e => by
      obtain ⟨cs, h3⟩ := row_block hro e
      have h6 : w'.heap[b + 6]? = _ := hst'
      rw [h3] at h6
      injection h6 with h6
      injection h6 with _ h6
      exact absurd h6 (by decide)
    obtain ⟨q, cap, rfl⟩ : ∃ q cap, v' = .slice (some ⟨q, 0, none⟩) (xs.length + 1) cap := by
      rcases hown'.2 with ⟨_, h0⟩ | ⟨q, cap, cur, h0, _⟩
      · simp at h0
      · exact ⟨q, cap, h0⟩
    refine ⟨⟨2, g, _⟩, ⟨q, cap, rfl, rfl⟩, hfr.trans ⟨hgrow.os, hgrow.tape, hgrow.output, hgrow.size, fun k hk hT => hgrow.block k hk fun e => hT (.inl e.symm)⟩, (hgrow.block _ hlt' (fun e => hne e.symm)).trans hst', fun h => (by simp at h), fun h => (by cases h), fun _ => ⟨hown', ?_⟩⟩
    rcases hloc with h | h
    · exact .inl h
    · exact .inr ⟨_, h, hfr.size⟩
  obtain ⟨q, cap, rfl, rfl⟩ := hs2
  (go_simp; refine hK _ _ ?_; clear hK K)
  (refine flowU_readE rfl rfl (fun K hK => ?_); apply Exists.intro; apply And.intro; (focus (intro w' hR; have hq := hR.st; rw [if_pos (by first | exact hC | simp)] at hq; obtain ⟨_, _, _, _, _, _, _, e7, _⟩ := hq.cells; have y2 := hR.fr.cell x2 hT2 (by omega); have y3 := hR.fr.cell x3 hT3 (by omega); clear hq hR; go_simp; (try go_bits); exact rfl)); go_simp; (try go_bits); refine hK _ ?_; clear hK K)
  (refine flowU_readE rfl rfl (fun K hK => ?_); apply Exists.intro; apply And.intro; (focus (intro w' hR; have hq := hR.st; rw [if_pos (by first | exact hC | simp)] at hq; obtain ⟨_, _, _, _, _, _, _, e7, _⟩ := hq.cells; have y2 := hR.fr.cell x2 hT2 (by omega); have y3 := hR.fr.cell x3 hT3 (by omega); clear hq hR; go_simp; (try go_bits); exact rfl)); go_simp; (try go_bits); refine hK _ ?_; clear hK K)
  refine flowU_step (puPC g (Value.slice (some ⟨q, 0, none⟩) (xs.length + 1) cap)) (by decide) rfl ⟨undef, _, rfl, rfl⟩ (fun w' hR => ?_) (fun h => absurd rfl h) (fun K hK v s2 hs2 => ?_)
  focus
    have hst' := hR.st
    rw [if_pos (by simp)] at hst'
    have hlt' := (Array.getElem?_eq_some_iff.1 (show w'.heap[b + 6]? = _ from hst')).1
    obtain ⟨_, _, _, _, _, _, _, d7, ff⟩ := hst'.cells
    have f7 := ff 7
    obtain ⟨n1, n2⟩ := hR.new (Nat.le_refl _)
    have hfr := hR.fr
    clear hR ff
    dsimp only at n1 n2
    have hne : ((Value.slice (some ⟨q, 0, none⟩) (xs.length + 1) cap)).ownBlock ≠ some (b + 6) := fun e => by
      obtain ⟨cs, h3⟩ := row_block n1 e
      have h6 : w'.heap[b + 6]? = _ := hst'
      rw [h3] at h6
      injection h6 with h6
      injection h6 with _ h6
      exact absurd h6 (by decide)
    go_simp
    exact ⟨⟨3, g, (Value.slice (some ⟨q, 0, none⟩) (xs.length + 1) cap)⟩, ⟨rfl, rfl⟩, hfr.setCell (.inl (.inr rfl)) _, hst'.set _, fun h => (by simp at h), fun h => (by simp at h), fun _ => ⟨ownsRow_same n1 fun k hk => heap_set_ne (fun e => hne (e ▸ hk)), n2⟩⟩
  obtain ⟨rfl, rfl⟩ := hs2
  (go_simp; refine hK _ _ ?_; clear hK K)
  refine flowU_nil ?_
  intro W4 hR4
  have fr4 := hR4.fr
  have st4 := hR4.st
  rw [if_neg (by simp)] at st4
  dsimp only at st4
  obtain ⟨ro4, at4⟩ := hR4.new (by simp)
  clear hR4
  have sz4 := fr4.size
  have f4 : Fr F W W4 := f3.trans ⟨fr4.os, fr4.tape, fr4.output, fr4.size, fun k hk hT => fr4.block k hk (fun e => hT (by
    rcases e with e | e
    · exact hunF k e
    · rw [e]; exact hCb))⟩
  have fin := push_done (F' := fun k => F k ∨ (W.heap.size ≤ k ∧ k < W4.heap.size)) hC3 s3 hrow3 (fun k hk => .inl (hunF k hk)) hx3 hv3 fr4 st4 ro4 at4 (fun k hk => by
    rcases hk with hk | hk
    · exact .inl hk
    · exact .inr ⟨hk.1, Nat.lt_of_lt_of_le hk.2 sz4⟩) (fun k h1 h2 => .inr ⟨by omega, h2⟩) (fun k hk => by
    rcases hk with hk | hk
    · have := hfl k hk
      omega
    · exact hk.2)
  clear hC3 hrow3 hx3 hv3 ro4 st4 at4 fr4
  go_wp2
  go_ret
  exact ⟨rfl, _, fin, f4, fun k hk => .inl hk, fun k hk => hk.imp id (fun h => h.1)⟩
end
end Go.Proofs.YtcdjdnbdblpofaaDoor
