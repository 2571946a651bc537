/-
  Texts of one proof, one behind the other. Conditions: each text's own line says them.
-/
import Derived.Test.YtcdjdnbdblpofaaDoorPL29
import Derived.Test.YtcdjdnbdblpofaaDoorPL27
import Derived.Test.YtcdjdnbdblpofaaDoorPL30

/- The document's calls that note a change: Log, SaveBrief. Conditions: the blocks say what the state is. -/
namespace Go.Proofs.YtcdjdnbdblpofaaDoor
open Go.RowKit Go.Maps
attribute [local go_sem] leftBy leaves eqW guardW
set_option linter.unusedSimpArgs false
set_option linter.unusedVariables false

theorem infoC : (Tryd.prog.info? 94).map (fun i => (i.zero, i.size, i.bytes)) = some (some (.agg #[.int .i64 0, .string ⟨#[]⟩, .string ⟨#[]⟩, .int .u64 0, .int .u64 0, .int .u64 0, .int .u64 0, .int .u64 0, .int .u64 0, .int .u64 0, .int .u64 0, .string ⟨#[]⟩, .slice none 0 0, .string ⟨#[]⟩]), 14, 160) := by kernel_rfl
/-- Where the region that notes a change stands. -/
structure chR (W1 : World) (q : Nat) (lv cv : Value) (n : Nat) (xs vc : List Value) (s : PuS) (w' : World) : Prop where
  fr : Fr (fun k => cv.ownBlock = some k ∨ k = q) W1 w'
  st : w'.heap[q]? = some (.cells #[lv, if s.st ≤ 2 then cv else s.u] 91 (0, 0))
  row : s.st ≤ 1 → w'.ownsRow 0 94 14 cv n xs
  one : s.st = 1 → W1.heap.size ≤ s.g ∧ w'.heap[s.g]? = some (.cells vc.toArray 94 (0, 0))
  new : 2 ≤ s.st → w'.ownsRow 0 94 14 s.u (n + 1) (xs ++ vc) ∧ (s.u.ownBlock = cv.ownBlock ∨ ∃ q, s.u.ownBlock = some q ∧ W1.heap.size ≤ q)
theorem one_cells {W : World} {g : Nat} {vc : List Value} {cs : Array Value} {t : TypeId} {f : Nat × Nat} (h : W.heap[g]? = some (.cells cs t f)) (e : cs = vc.toArray) {j : Nat} {u : Value} (hj : vc[j]? = some u) : W.cell? ((⟨g, 0, none⟩ : Addr).add j) = some u := by
  subst e
  rw [add_plain, Nat.zero_add]
  simp [World.cell?, h, hj]
theorem lb_nil (j : Nat) : lb 0 j = 0 := by unfold lb; simp
/-- The state behind it. -/
theorem chR.done {W W1 w3 : World} {G : Nat → Prop} {q : Nat} {lv cv : Value} {R : List Chg} {c : Chg} {s : PuS} {vc : List Value} (hgl : ∀ k, G k → k < W.heap.size) (hgq : G q) (hcv : ∀ k, cv.ownBlock = some k → G k) (hb : Below W.heap.size W W1) (hvc : vc = c.c) (hR : chR W1 q lv cv R.length (chC R.reverse) vc s w3) (hs : s.st = 3) :
    ∃ G', RRep w3 G' q lv (c :: R) ∧ Fr G W w3 ∧ (∀ k, G k → G' k) ∧ ∀ k, G' k → G k ∨ W.heap.size ≤ k := by
  subst hvc
  have fr := hR.fr
  have st := hR.st
  rw [if_neg (by omega)] at st
  obtain ⟨n1, n2⟩ := hR.new (by omega)
  have sz := fr.size
  have sz0 := hb.size
  have fW : Fr G W w3 := ((Fr.refl _ W).below hb).trans ⟨fr.os, fr.tape, fr.output, fr.size, fun k hk hT => fr.block k hk (fun e => hT (by
    rcases e with e | e
    · exact hcv k e
    · rw [e]; exact hgq))⟩
  refine ⟨fun k => G k ∨ (W.heap.size ≤ k ∧ k < w3.heap.size), ⟨fun k hk => ?_, .inl hgq, _, st, ?_, fun k hk => ?_⟩, fW, fun k hk => .inl hk, fun k hk => hk.imp id (fun h => h.1)⟩
  · rcases hk with hk | hk
    · have := hgl k hk
      omega
    · exact hk.2
  · rw [chC_push]
    exact n1
  · rcases n2 with h | ⟨p, h, hp⟩
    · exact .inl (hcv k (h ▸ hk))
    · obtain rfl : p = k := Option.some.inj (h.symm.trans hk)
      obtain ⟨cs, h3⟩ := row_block n1 hk
      exact .inr ⟨by omega, (Array.getElem?_eq_some_iff.1 h3).1⟩

section
variable {W : World} {G : Nat → Prop} {q : Nat} {lv : Value} {L : List Kw} {R : List Chg}

set_option maxRecDepth 100000 in
set_option maxHeartbeats 16000000 in
theorem Log_R (h : RRep W G q lv R) (hR : R.length ≤ 1000000) (l : Lg) :
    Calls Tryd.prog 49 #[ptr q, l.v] W (mrPost W G q lv (.note l :: R) (.int .i64 0)) := by
  obtain ⟨ga, gc, hb, c0, c1, hrow, hown, hcap, hg, _⟩ := h.cells
  have hgl := h.glt
  have hgq := h.gq
  have hlt := (Array.getElem?_eq_some_iff.1 hb).1
  obtain ⟨j0, hj, hy0, hy1, hy2⟩ := info_parts infoC
  have b1 : Below W.heap.size W (W.alloc (.cells #[.string l.ad, .slice l.tp l.tn l.tc, .string l.dt] 43)) := (Below.refl _ W).alloc (Nat.le_refl _) _
  have k2 : (W.alloc (.cells #[.string l.ad, .slice l.tp l.tn l.tc, .string l.dt] 43)).heap[W.heap.size]? = _ := heap_new rfl
  have z1 : W.heap.size + 1 ≤ (W.alloc (.cells #[.string l.ad, .slice l.tp l.tn l.tc, .string l.dt] 43)).heap.size := by simp
  unfold ptr Lg.v
  go_enter Tryd.func49, Tryd.ntmps49
  go_wp2
  generalize W.alloc (.cells #[.string l.ad, .slice l.tp l.tn l.tc, .string l.dt] 43) = W1 at *
  have k1 := (b1.block _ hlt).trans hb
  have hrow1 : W1.ownsRow 0 94 14 (Value.slice ga R.length gc) R.length (chC R.reverse) := ownsRow_same hrow fun k hk => b1.block k (hgl k (hown k hk))
  have x0 : W1.cell? ⟨W.heap.size, 0, none⟩ = some (.string l.ad) := by simp [World.cell?, k2]
  have x1 : W1.cell? ⟨W.heap.size, 1, none⟩ = some (.slice l.tp l.tn l.tc) := by simp [World.cell?, k2]
  have x2 : W1.cell? ⟨W.heap.size, 2, none⟩ = some (.string l.dt) := by simp [World.cell?, k2]
  have hN0 : ¬ ((Value.slice ga R.length gc).ownBlock = some (W.heap.size) ∨ W.heap.size = q) := fun h => by
    rcases h with h | h
    · have := hgl _ (hown _ h)
      omega
    · omega
  clear c0 c1 hg
  refine wp_flowU (fun k => ([0, 0, 0, 0, 0, 1, 1, 2, 2, 1, 1, 4] : List Nat).getD k 1) (chR W1 q lv (Value.slice ga R.length gc) R.length (chC R.reverse) [.int .i64 6, .string ⟨#[]⟩, .string ⟨#[]⟩, .int .u64 0, .int .u64 0, .int .u64 0, .int .u64 0, .int .u64 0, .int .u64 0, .int .u64 0, .int .u64 0, .string l.ad, .slice l.tp l.tn l.tc, .string l.dt]) (fun s => s.st ≤ 2) (⟨0, 0, undef⟩) (⟨Fr.drew (Fr.refl _ _), k1, fun _ => hrow1, fun h => (by cases h), fun h => (by simp at h)⟩) (by decide) (by kernel_rfl) (by kernel_rfl) ?_
  iterate 5 ((refine flowU_lateE rfl rfl (fun K hK => ?_); apply Exists.intro; apply And.intro; (focus (intro s0 w' hC hR; have hq := hR.st; rw [if_pos (by first | exact hC | simp)] at hq; have e1 : w'.cell? ⟨q, 1, none⟩ = some (Value.slice ga R.length gc) := (by simp [World.cell?, hq]); have y0 := hR.fr.cell x0 hN0 (by omega); have y1 := hR.fr.cell x1 hN0 (by omega); have y2 := hR.fr.cell x2 hN0 (by omega); clear hq hR; go_simp; (try go_bits); exact rfl)); go_simp; (try go_bits); refine hK _ ?_; clear hK K))
  iterate 2 ((refine flowU_readE rfl rfl (fun K hK => ?_); apply Exists.intro; apply And.intro; (focus (intro w' hR; have hq := hR.st; rw [if_pos (by first | exact hC | simp)] at hq; have e1 : w'.cell? ⟨q, 1, none⟩ = some (Value.slice ga R.length gc) := (by simp [World.cell?, hq]); have y0 := hR.fr.cell x0 hN0 (by omega); have y1 := hR.fr.cell x1 hN0 (by omega); have y2 := hR.fr.cell x2 hN0 (by omega); clear hq hR; go_simp; (try go_bits); exact rfl)); go_simp; (try go_bits); refine hK _ ?_; clear hK K))
  refine flowU_step puPB (by decide) rfl ⟨.slice (some ⟨0, 0, none⟩) 1 1, _, 0, rfl, rfl⟩ (fun w' hR => ?_) (fun _ _ v s2 h => (by obtain ⟨g, _, rfl⟩ := h; exact (by decide : (1 : Nat) ≤ 2))) (fun K hK v s2 hs2 => ?_)
  focus
    have hst' := hR.st
    have hlt' := (Array.getElem?_eq_some_iff.1 hst').1
    have hfr := hR.fr
    have hro := hR.row (Nat.zero_le _)
    clear hR
    go_simp
    exact ⟨⟨1, w'.heap.size, undef⟩, ⟨_, rfl, rfl⟩, hfr.alloc _, (Below.heap_alloc _ _ _ hlt').trans hst', fun _ => hro.alloc _, fun _ => ⟨hfr.size, heap_new rfl⟩, fun h => (by simp at h)⟩
  obtain ⟨g, rfl, rfl⟩ := hs2
  (go_simp; refine hK _ _ ?_; clear hK K)
  refine flowU_step (puPA (R.length + 1) g) (by decide) rfl ⟨_, _, 0, 0, rfl, rfl⟩ (fun w' hR => ?_) (fun _ _ v s2 h => (by obtain ⟨_, _, _, rfl⟩ := h; exact (by decide : (2 : Nat) ≤ 2))) (fun K hK v s2 hs2 => ?_)
  focus
    have hst' := hR.st
    have hlt' := (Array.getElem?_eq_some_iff.1 hst').1
    obtain ⟨hg1, hg2⟩ := hR.one rfl
    have hro := hR.row (Nat.le_refl _)
    have hfr := hR.fr
    clear hR
    obtain ⟨v', w2, hr, hown', hgrow, _, hloc⟩ := run_append_own_at (P := Tryd.prog) w' 0 89 89 94 j0 _ 14 160 Tryd.underlying89 hj hy0 hy1 hy2 rfl (by decide) (Value.slice ga R.length gc) R.length (chC R.reverse) hro ⟨g, 0, none⟩ 1 1 [.int .i64 6, .string ⟨#[]⟩, .string ⟨#[]⟩, .int .u64 0, .int .u64 0, .int .u64 0, .int .u64 0, .int .u64 0, .int .u64 0, .int .u64 0, .int .u64 0, .string l.ad, .slice l.tp l.tn l.tc, .string l.dt] rfl
      (fun j u hj => by
        have hg3 : w'.heap[g]? = _ := hg2
        rw [World.cell?_of_block (w := w') (w' := w') rfl]
        have hj3 : j < 14 := (List.getElem?_eq_some_iff.1 hj).1
        exact one_cells hg3 rfl hj) (by simp [Value.oneCell']) (by unfold maxLen; omega) (by omega) (Nat.zero_le _)
    rw [append_exec (P := Tryd.prog) rfl rfl rfl hr]
    have hne : (Value.slice ga R.length gc).ownBlock ≠ some q := fun e => by
      obtain ⟨cs, h3⟩ := row_block hro e
      rw [h3] at hst'
      injection hst' with h6
      injection h6 with _ h6
      exact absurd h6 (by decide)
    obtain ⟨ql, cap, rfl⟩ : ∃ ql cap, v' = .slice (some ⟨ql, 0, none⟩) (R.length + 1) cap := by
      rcases hown'.2 with ⟨_, h0⟩ | ⟨ql, cap, cur, h0, _⟩
      · simp at h0
      · exact ⟨ql, cap, h0⟩
    refine ⟨⟨2, g, _⟩, ⟨ql, cap, rfl, rfl⟩, hfr.trans ⟨hgrow.os, hgrow.tape, hgrow.output, hgrow.size, fun k hk hT => hgrow.block k hk fun e => hT (.inl e.symm)⟩, (hgrow.block _ hlt' (fun e => hne e.symm)).trans hst', fun h => (by simp at h), fun h => (by cases h), fun _ => ⟨hown', ?_⟩⟩
    rcases hloc with h | h
    · exact .inl h
    · exact .inr ⟨_, h, hfr.size⟩
  obtain ⟨ql, capl, rfl, rfl⟩ := hs2
  (go_simp; refine hK _ _ ?_; clear hK K)
  iterate 2 ((refine flowU_readE rfl rfl (fun K hK => ?_); apply Exists.intro; apply And.intro; (focus (intro w' hR; have hq := hR.st; rw [if_pos (by first | exact hC | simp)] at hq; have e1 : w'.cell? ⟨q, 1, none⟩ = some (Value.slice ga R.length gc) := (by simp [World.cell?, hq]); have y0 := hR.fr.cell x0 hN0 (by omega); have y1 := hR.fr.cell x1 hN0 (by omega); have y2 := hR.fr.cell x2 hN0 (by omega); clear hq hR; go_simp; (try go_bits); exact rfl)); go_simp; (try go_bits); refine hK _ ?_; clear hK K))
  refine flowU_step (puPC g (Value.slice (some ⟨ql, 0, none⟩) (R.length + 1) capl)) (by decide) rfl ⟨undef, _, rfl, rfl⟩ (fun w' hR => ?_) (fun h => absurd rfl h) (fun K hK v s2 hs2 => ?_)
  focus
    have hst' := hR.st
    rw [if_pos (by simp)] at hst'
    have hlt' := (Array.getElem?_eq_some_iff.1 hst').1
    have f1 : w'.frozen? ⟨q, 1, none⟩ = false := by simp [World.frozen?, hst']
    have d1 : w'.cell? ⟨q, 1, none⟩ = some (Value.slice ga R.length gc) := by simp [World.cell?, hst']
    obtain ⟨n1, n2⟩ := hR.new (Nat.le_refl _)
    have hfr := hR.fr
    clear hR
    dsimp only at n1 n2
    have hne : (Value.slice (some ⟨ql, 0, none⟩) (R.length + 1) capl).ownBlock ≠ some q := fun e => by
      obtain ⟨cs, h3⟩ := row_block n1 e
      rw [h3] at hst'
      injection hst' with h6
      injection h6 with _ h6
      exact absurd h6 (by decide)
    go_simp
    exact ⟨⟨3, g, Value.slice (some ⟨ql, 0, none⟩) (R.length + 1) capl⟩, ⟨rfl, rfl⟩, hfr.setCell (.inl (.inr rfl)) _, st_set1 hst' _, fun h => (by simp at h), fun h => (by simp at h), fun _ => ⟨ownsRow_same n1 fun k hk => heap_set_ne (fun e => hne (e ▸ hk)), n2⟩⟩
  obtain ⟨rfl, rfl⟩ := hs2
  (go_simp; refine hK _ _ ?_; clear hK K)
  refine flowU_nil ?_
  intro w3 hR3
  have fin := chR.done (c := .note l) hgl hgq hown b1 (by simp only [Chg.c, chV, Chg.ki, Chg.fr, Chg.to, Chg.ke, Chg.va, Chg.lo, Lg.nil, lb_nil]; rfl) hR3 (by rfl)
  clear hR3
  go_wp2
  go_ret
  exact ⟨rfl, fin⟩

set_option maxRecDepth 100000 in
set_option maxHeartbeats 16000000 in
theorem SaveBrief_R (h : RRep W G q lv R) (hR : R.length ≤ 1000000) (a : ByteArray) (k v : Nat) :
    Calls Tryd.prog 45 #[ptr q, .string a, W4 k, W4 v] W (mrPost W G q lv (.brief (a, k) v :: R) (.int .i64 0)) := by
  obtain ⟨ga, gc, hb, c0, c1, hrow, hown, hcap, hg, _⟩ := h.cells
  have hgl := h.glt
  have hgq := h.gq
  have hlt := (Array.getElem?_eq_some_iff.1 hb).1
  obtain ⟨j0, hj, hy0, hy1, hy2⟩ := info_parts infoC
  have b1 : Below W.heap.size W ((W.alloc (.cells #[.int .u64 (lb k 0 : Nat), .int .u64 (lb k 1 : Nat), .int .u64 (lb k 2 : Nat), .int .u64 (lb k 3 : Nat)] 25)).alloc (.cells #[.int .u64 (lb v 0 : Nat), .int .u64 (lb v 1 : Nat), .int .u64 (lb v 2 : Nat), .int .u64 (lb v 3 : Nat)] 25)) := ((Below.refl _ W).alloc (Nat.le_refl _) _).alloc (by simp) _
  have k2 : ((W.alloc (.cells #[.int .u64 (lb k 0 : Nat), .int .u64 (lb k 1 : Nat), .int .u64 (lb k 2 : Nat), .int .u64 (lb k 3 : Nat)] 25)).alloc (.cells #[.int .u64 (lb v 0 : Nat), .int .u64 (lb v 1 : Nat), .int .u64 (lb v 2 : Nat), .int .u64 (lb v 3 : Nat)] 25)).heap[W.heap.size]? = _ := (Below.heap_alloc _ _ _ (by simp)).trans (heap_new rfl)
  have k3 : ((W.alloc (.cells #[.int .u64 (lb k 0 : Nat), .int .u64 (lb k 1 : Nat), .int .u64 (lb k 2 : Nat), .int .u64 (lb k 3 : Nat)] 25)).alloc (.cells #[.int .u64 (lb v 0 : Nat), .int .u64 (lb v 1 : Nat), .int .u64 (lb v 2 : Nat), .int .u64 (lb v 3 : Nat)] 25)).heap[W.heap.size + 1]? = _ := heap_new (by simp)
  have z1 : W.heap.size + 2 ≤ ((W.alloc (.cells #[.int .u64 (lb k 0 : Nat), .int .u64 (lb k 1 : Nat), .int .u64 (lb k 2 : Nat), .int .u64 (lb k 3 : Nat)] 25)).alloc (.cells #[.int .u64 (lb v 0 : Nat), .int .u64 (lb v 1 : Nat), .int .u64 (lb v 2 : Nat), .int .u64 (lb v 3 : Nat)] 25)).heap.size := by simp
  unfold ptr
  go_enter Tryd.func45, Tryd.ntmps45
  go_wp2
  generalize ((W.alloc (.cells #[.int .u64 (lb k 0 : Nat), .int .u64 (lb k 1 : Nat), .int .u64 (lb k 2 : Nat), .int .u64 (lb k 3 : Nat)] 25)).alloc (.cells #[.int .u64 (lb v 0 : Nat), .int .u64 (lb v 1 : Nat), .int .u64 (lb v 2 : Nat), .int .u64 (lb v 3 : Nat)] 25)) = W1 at *
  have k1 := (b1.block _ hlt).trans hb
  have hrow1 : W1.ownsRow 0 94 14 (Value.slice ga R.length gc) R.length (chC R.reverse) := ownsRow_same hrow fun k hk => b1.block k (hgl k (hown k hk))
  obtain ⟨x0, x1, x2, x3⟩ := cells4w k2
  obtain ⟨y0, y1, y2, y3⟩ := cells4w k3
  have hN0 : ¬ ((Value.slice ga R.length gc).ownBlock = some (W.heap.size) ∨ W.heap.size = q) := fun h => by
    rcases h with h | h
    · have := hgl _ (hown _ h)
      omega
    · omega
  have hN1 : ¬ ((Value.slice ga R.length gc).ownBlock = some (W.heap.size + 1) ∨ W.heap.size + 1 = q) := fun h => by
    rcases h with h | h
    · have := hgl _ (hown _ h)
      omega
    · omega
  clear c0 c1 hg
  refine wp_flowU (fun k => ([0, 0, 0, 0, 0, 1, 1, 1, 1, 2, 2, 1, 1, 4] : List Nat).getD k 1) (chR W1 q lv (Value.slice ga R.length gc) R.length (chC R.reverse) [.int .i64 2, .string a, .string ⟨#[]⟩, .int .u64 (lb k 0 : Nat), .int .u64 (lb k 1 : Nat), .int .u64 (lb k 2 : Nat), .int .u64 (lb k 3 : Nat), .int .u64 (lb v 0 : Nat), .int .u64 (lb v 1 : Nat), .int .u64 (lb v 2 : Nat), .int .u64 (lb v 3 : Nat), .string ⟨#[]⟩, .slice none 0 0, .string ⟨#[]⟩]) (fun s => s.st ≤ 2) (⟨0, 0, undef⟩) (⟨Fr.drew (Fr.refl _ _), k1, fun _ => hrow1, fun h => (by cases h), fun h => (by simp at h)⟩) (by decide) (by kernel_rfl) (by kernel_rfl) ?_
  iterate 5 ((refine flowU_lateE rfl rfl (fun K hK => ?_); apply Exists.intro; apply And.intro; (focus (intro s0 w' hC hR; have hq := hR.st; rw [if_pos (by first | exact hC | simp)] at hq; have e1 : w'.cell? ⟨q, 1, none⟩ = some (Value.slice ga R.length gc) := (by simp [World.cell?, hq]); have p0 := hR.fr.cell x0 hN0 (by omega); have q0 := hR.fr.cell y0 hN1 (by omega); have p1 := hR.fr.cell x1 hN0 (by omega); have q1 := hR.fr.cell y1 hN1 (by omega); have p2 := hR.fr.cell x2 hN0 (by omega); have q2 := hR.fr.cell y2 hN1 (by omega); have p3 := hR.fr.cell x3 hN0 (by omega); have q3 := hR.fr.cell y3 hN1 (by omega); clear hq hR; go_simp; (try go_bits); exact rfl)); go_simp; (try go_bits); refine hK _ ?_; clear hK K))
  iterate 4 ((refine flowU_readE rfl rfl (fun K hK => ?_); apply Exists.intro; apply And.intro; (focus (intro w' hR; have hq := hR.st; rw [if_pos (by first | exact hC | simp)] at hq; have e1 : w'.cell? ⟨q, 1, none⟩ = some (Value.slice ga R.length gc) := (by simp [World.cell?, hq]); have p0 := hR.fr.cell x0 hN0 (by omega); have q0 := hR.fr.cell y0 hN1 (by omega); have p1 := hR.fr.cell x1 hN0 (by omega); have q1 := hR.fr.cell y1 hN1 (by omega); have p2 := hR.fr.cell x2 hN0 (by omega); have q2 := hR.fr.cell y2 hN1 (by omega); have p3 := hR.fr.cell x3 hN0 (by omega); have q3 := hR.fr.cell y3 hN1 (by omega); clear hq hR; go_simp; (try go_bits); exact rfl)); go_simp; (try go_bits); refine hK _ ?_; clear hK K))
  refine flowU_step puPB (by decide) rfl ⟨.slice (some ⟨0, 0, none⟩) 1 1, _, 0, rfl, rfl⟩ (fun w' hR => ?_) (fun _ _ v s2 h => (by obtain ⟨g, _, rfl⟩ := h; exact (by decide : (1 : Nat) ≤ 2))) (fun K hK v s2 hs2 => ?_)
  focus
    have hst' := hR.st
    have hlt' := (Array.getElem?_eq_some_iff.1 hst').1
    have hfr := hR.fr
    have hro := hR.row (Nat.zero_le _)
    clear hR
    go_simp
    exact ⟨⟨1, w'.heap.size, undef⟩, ⟨_, rfl, rfl⟩, hfr.alloc _, (Below.heap_alloc _ _ _ hlt').trans hst', fun _ => hro.alloc _, fun _ => ⟨hfr.size, heap_new rfl⟩, fun h => (by simp at h)⟩
  obtain ⟨g, rfl, rfl⟩ := hs2
  (go_simp; refine hK _ _ ?_; clear hK K)
  refine flowU_step (puPA (R.length + 1) g) (by decide) rfl ⟨_, _, 0, 0, rfl, rfl⟩ (fun w' hR => ?_) (fun _ _ v s2 h => (by obtain ⟨_, _, _, rfl⟩ := h; exact (by decide : (2 : Nat) ≤ 2))) (fun K hK v s2 hs2 => ?_)
  focus
    have hst' := hR.st
    have hlt' := (Array.getElem?_eq_some_iff.1 hst').1
    obtain ⟨hg1, hg2⟩ := hR.one rfl
    have hro := hR.row (Nat.le_refl _)
    have hfr := hR.fr
    clear hR
    obtain ⟨v', w2, hr, hown', hgrow, _, hloc⟩ := run_append_own_at (P := Tryd.prog) w' 0 89 89 94 j0 _ 14 160 Tryd.underlying89 hj hy0 hy1 hy2 rfl (by decide) (Value.slice ga R.length gc) R.length (chC R.reverse) hro ⟨g, 0, none⟩ 1 1 [.int .i64 2, .string a, .string ⟨#[]⟩, .int .u64 (lb k 0 : Nat), .int .u64 (lb k 1 : Nat), .int .u64 (lb k 2 : Nat), .int .u64 (lb k 3 : Nat), .int .u64 (lb v 0 : Nat), .int .u64 (lb v 1 : Nat), .int .u64 (lb v 2 : Nat), .int .u64 (lb v 3 : Nat), .string ⟨#[]⟩, .slice none 0 0, .string ⟨#[]⟩] rfl
      (fun j u hj => by
        have hg3 : w'.heap[g]? = _ := hg2
        rw [World.cell?_of_block (w := w') (w' := w') rfl]
        have hj3 : j < 14 := (List.getElem?_eq_some_iff.1 hj).1
        exact one_cells hg3 rfl hj) (by simp [Value.oneCell']) (by unfold maxLen; omega) (by omega) (Nat.zero_le _)
    rw [append_exec (P := Tryd.prog) rfl rfl rfl hr]
    have hne : (Value.slice ga R.length gc).ownBlock ≠ some q := fun e => by
      obtain ⟨cs, h3⟩ := row_block hro e
      rw [h3] at hst'
      injection hst' with h6
      injection h6 with _ h6
      exact absurd h6 (by decide)
    obtain ⟨ql, cap, rfl⟩ : ∃ ql cap, v' = .slice (some ⟨ql, 0, none⟩) (R.length + 1) cap := by
      rcases hown'.2 with ⟨_, h0⟩ | ⟨ql, cap, cur, h0, _⟩
      · simp at h0
      · exact ⟨ql, cap, h0⟩
    refine ⟨⟨2, g, _⟩, ⟨ql, cap, rfl, rfl⟩, hfr.trans ⟨hgrow.os, hgrow.tape, hgrow.output, hgrow.size, fun k hk hT => hgrow.block k hk fun e => hT (.inl e.symm)⟩, (hgrow.block _ hlt' (fun e => hne e.symm)).trans hst', fun h => (by simp at h), fun h => (by cases h), fun _ => ⟨hown', ?_⟩⟩
    rcases hloc with h | h
    · exact .inl h
    · exact .inr ⟨_, h, hfr.size⟩
  obtain ⟨ql, capl, rfl, rfl⟩ := hs2
  (go_simp; refine hK _ _ ?_; clear hK K)
  iterate 2 ((refine flowU_readE rfl rfl (fun K hK => ?_); apply Exists.intro; apply And.intro; (focus (intro w' hR; have hq := hR.st; rw [if_pos (by first | exact hC | simp)] at hq; have e1 : w'.cell? ⟨q, 1, none⟩ = some (Value.slice ga R.length gc) := (by simp [World.cell?, hq]); have p0 := hR.fr.cell x0 hN0 (by omega); have q0 := hR.fr.cell y0 hN1 (by omega); have p1 := hR.fr.cell x1 hN0 (by omega); have q1 := hR.fr.cell y1 hN1 (by omega); have p2 := hR.fr.cell x2 hN0 (by omega); have q2 := hR.fr.cell y2 hN1 (by omega); have p3 := hR.fr.cell x3 hN0 (by omega); have q3 := hR.fr.cell y3 hN1 (by omega); clear hq hR; go_simp; (try go_bits); exact rfl)); go_simp; (try go_bits); refine hK _ ?_; clear hK K))
  refine flowU_step (puPC g (Value.slice (some ⟨ql, 0, none⟩) (R.length + 1) capl)) (by decide) rfl ⟨undef, _, rfl, rfl⟩ (fun w' hR => ?_) (fun h => absurd rfl h) (fun K hK v s2 hs2 => ?_)
  focus
    have hst' := hR.st
    rw [if_pos (by simp)] at hst'
    have hlt' := (Array.getElem?_eq_some_iff.1 hst').1
    have f1 : w'.frozen? ⟨q, 1, none⟩ = false := by simp [World.frozen?, hst']
    have d1 : w'.cell? ⟨q, 1, none⟩ = some (Value.slice ga R.length gc) := by simp [World.cell?, hst']
    obtain ⟨n1, n2⟩ := hR.new (Nat.le_refl _)
    have hfr := hR.fr
    clear hR
    dsimp only at n1 n2
    have hne : (Value.slice (some ⟨ql, 0, none⟩) (R.length + 1) capl).ownBlock ≠ some q := fun e => by
      obtain ⟨cs, h3⟩ := row_block n1 e
      rw [h3] at hst'
      injection hst' with h6
      injection h6 with _ h6
      exact absurd h6 (by decide)
    go_simp
    exact ⟨⟨3, g, Value.slice (some ⟨ql, 0, none⟩) (R.length + 1) capl⟩, ⟨rfl, rfl⟩, hfr.setCell (.inl (.inr rfl)) _, st_set1 hst' _, fun h => (by simp at h), fun h => (by simp at h), fun _ => ⟨ownsRow_same n1 fun k hk => heap_set_ne (fun e => hne (e ▸ hk)), n2⟩⟩
  obtain ⟨rfl, rfl⟩ := hs2
  (go_simp; refine hK _ _ ?_; clear hK K)
  refine flowU_nil ?_
  intro w3 hR3
  have fin := chR.done (c := .brief (a, k) v) hgl hgq hown b1 (by simp only [Chg.c, chV, Chg.ki, Chg.fr, Chg.to, Chg.ke, Chg.va, Chg.lo, Lg.nil, lb_nil]; rfl) hR3 (by rfl)
  clear hR3
  go_wp2
  go_ret
  exact ⟨rfl, fin⟩
end
end Go.Proofs.YtcdjdnbdblpofaaDoor

/- What the document's state says of a balance: Balance. Conditions: the blocks say what it is. -/
namespace Go.Proofs.YtcdjdnbdblpofaaDoor
open Go.RowKit Go.Maps
attribute [local go_sem] leftBy leaves eqW guardW
set_option linter.unusedSimpArgs false
set_option linter.unusedVariables false



/-- The balance behind a change. -/
theorem baF_step {L : List Kw} {c : Chg} {R : List Chg} {a : ByteArray} :
    baF L (c :: R) a = (let w := if c.ki = 3 ∧ c.fr = a then subN (baF L R a) c.va else baF L R a; if c.ki = 3 ∧ c.to = a then addN w c.va else w) := by
  cases c <;> simp [baF, Chg.ki, Chg.fr, Chg.to, Chg.va, mvF]
  rename_i f t n
  by_cases h1 : a = f <;> by_cases h2 : a = t <;> simp [h1, h2, eq_comm]

section
variable {W : World} {G : Nat → Prop} {q : Nat} {lv : Value} {L : List Kw} {R : List Chg}

set_option maxRecDepth 100000 in
set_option maxHeartbeats 16000000 in
theorem Balance_R (h : RRep W G q lv R) (hk : knL W lv L) (hR : R.length ≤ 1000000) (hok : ∀ c ∈ R, c.ok) (hL : ∀ K ∈ L, K.ba < Q256) (a : ByteArray) :
    Calls Tryd.prog 62 #[ptr q, .string a] W fun e w' => e = .returned (.tuple #[W4 (balN L R a), .int .i64 (kerr L a)]) ∧ Below W.heap.size W w' := by
  obtain ⟨g, cap, hb, c0, c1, _, _, hcap, hg, hcell⟩ := h.cells
  have hlt := (Array.getElem?_eq_some_iff.1 hb).1
  have cF := fun o => find_R (h.below ((Below.refl _ W).alloc (Nat.le_refl _) o)) (hk.below ((Below.refl _ W).alloc (Nat.le_refl _) o)) a
  have HC := Lib.hid hcell
  have HO := Lib.hid hok
  have HG := Lib.hid hg
  have hR2 : R.length ≤ 9223372036854775807 := by omega
  have hb0 := ba0_lt hL a
  have hbf := Lib.hid fun R => baF_lt hL R a
  unfold maxLen at hcap
  clear hcell h hok hg hb c0 hk hL
  unfold ptr at *
  cases hK : kfind L a with
  | none =>
    rw [kerr_none hK, show balN L R a = 0 by unfold balN; rw [hK], W4_zero]
    rw [hK] at cF
    unfold Kn.zero Kn.v at cF
    dsimp only [Option.map_none, Option.getD_none, Option.isSome_none] at cF
    go_enter Tryd.func62, Tryd.ntmps62
    go_wp2_with (go_at_call 74; refine (cF _).mono ?_; rintro e wa ⟨rfl, hb_wa⟩; have hc_wa := (bcell hb_wa).1; have hf_wa := (bcell hb_wa).2; have hz_wa : _ ≤ wa.heap.size := hb_wa.size; (try simp only [World.size_alloc, World.heap_drewN, World.size_setCell, heap_drew] at hc_wa hf_wa hz_wa); have hz_wa_W_0 : W.heap.size < wa.heap.size := (by omega))
    refine bodyPost_ret (by simp only [results, Tryd.results62]; go_simp; try rfl) rfl ⟨rfl, ?_⟩
    repeat (with_reducible first | exact Below.refl _ _ | assumption | refine below_drewN ?_ _ | refine Below.drew ?_ | refine Below.setCell ?_ (by first | omega | (simp; done) | (simp; omega)) _ | refine Below.alloc ?_ (by first | omega | (simp; done) | (simp; omega)) _ | refine Below.trans ?_ (Below.mono (by assumption) (by first | omega | (simp; done) | (simp; omega))))
  | some K =>
    rw [kerr_some hK, show balN L R a = baF L R a by unfold balN; rw [hK]]
    rw [hK] at cF
    have hba : ba0 L a = if K.th then K.ba else 0 := by unfold ba0; rw [hK]
    clear hK
    obtain ⟨ad, th, no, ba, rt, cd, hs, co, cp, cn, cc, cs⟩ := K
    unfold Kw.v Kw.kn Kn.v at cF
    dsimp only [Option.map_some, Option.getD_some, Option.isSome_some] at cF hba
    cases th with
    | true =>
      go_enter Tryd.func62, Tryd.ntmps62
      go_wp2_with (go_at_call 74; refine (cF _).mono ?_; rintro e wa ⟨rfl, hb_wa⟩; have hc_wa := (bcell hb_wa).1; have hf_wa := (bcell hb_wa).2; have hz_wa : _ ≤ wa.heap.size := hb_wa.size; (try simp only [World.size_alloc, World.heap_drewN, World.size_setCell, heap_drew] at hc_wa hf_wa hz_wa); have hz_wa_W_0 : W.heap.size < wa.heap.size := (by omega))
      have pb : ((wa.alloc (.cells #[.string ad, .bool true, .int .u64 no, .int .u64 (lb ba 0 : Nat), .int .u64 (lb ba 1 : Nat), .int .u64 (lb ba 2 : Nat), .int .u64 (lb ba 3 : Nat), .string rt, .string cd, .bool hs, .string co, .slice cp cn cc] 65)).alloc (.cells #[.int .u64 (lb ba 0 : Nat), .int .u64 (lb ba 1 : Nat), .int .u64 (lb ba 2 : Nat), .int .u64 (lb ba 3 : Nat)] 25)).heap[wa.heap.size + 1]? = some (.cells #[.int .u64 (lb ba 0 : Nat), .int .u64 (lb ba 1 : Nat), .int .u64 (lb ba 2 : Nat), .int .u64 (lb ba 3 : Nat)] 25 (0, 0)) := heap_new (by simp)
      have rb0 : wa.heap[W.heap.size]? = some (.cells #[.int .u64 0, .int .u64 0, .int .u64 0, .int .u64 0] 25 (0, 0)) := (hb_wa.block _ (by simp)).trans (heap_new rfl)
      have b2 : Below W.heap.size W ((wa.alloc (.cells #[.string ad, .bool true, .int .u64 no, .int .u64 (lb ba 0 : Nat), .int .u64 (lb ba 1 : Nat), .int .u64 (lb ba 2 : Nat), .int .u64 (lb ba 3 : Nat), .string rt, .string cd, .bool hs, .string co, .slice cp cn cc] 65)).alloc (.cells #[.int .u64 (lb ba 0 : Nat), .int .u64 (lb ba 1 : Nat), .int .u64 (lb ba 2 : Nat), .int .u64 (lb ba 3 : Nat)] 25)) := by
        repeat (with_reducible first | exact Below.refl _ _ | assumption | refine below_drewN ?_ _ | refine Below.drew ?_ | refine Below.setCell ?_ (by first | omega | (simp; done) | (simp; omega)) _ | refine Below.alloc ?_ (by first | omega | (simp; done) | (simp; omega)) _ | refine Below.trans ?_ (Below.mono (by assumption) (by first | omega | (simp; done) | (simp; omega))))
      have rb : ((wa.alloc (.cells #[.string ad, .bool true, .int .u64 no, .int .u64 (lb ba 0 : Nat), .int .u64 (lb ba 1 : Nat), .int .u64 (lb ba 2 : Nat), .int .u64 (lb ba 3 : Nat), .string rt, .string cd, .bool hs, .string co, .slice cp cn cc] 65)).alloc (.cells #[.int .u64 (lb ba 0 : Nat), .int .u64 (lb ba 1 : Nat), .int .u64 (lb ba 2 : Nat), .int .u64 (lb ba 3 : Nat)] 25)).heap[W.heap.size]? = some (.cells #[.int .u64 0, .int .u64 0, .int .u64 0, .int .u64 0] 25 (0, 0)) := (Below.heap_alloc _ _ _ (by simp; omega)).trans ((Below.heap_alloc _ _ _ (by omega)).trans rb0)
      have z2 : wa.heap.size + 2 ≤ ((wa.alloc (.cells #[.string ad, .bool true, .int .u64 no, .int .u64 (lb ba 0 : Nat), .int .u64 (lb ba 1 : Nat), .int .u64 (lb ba 2 : Nat), .int .u64 (lb ba 3 : Nat), .string rt, .string cd, .bool hs, .string co, .slice cp cn cc] 65)).alloc (.cells #[.int .u64 (lb ba 0 : Nat), .int .u64 (lb ba 1 : Nat), .int .u64 (lb ba 2 : Nat), .int .u64 (lb ba 3 : Nat)] 25)).heap.size := by simp
      clear hc_wa hf_wa cF rb0 hb_wa
      generalize ((wa.alloc (.cells #[.string ad, .bool true, .int .u64 no, .int .u64 (lb ba 0 : Nat), .int .u64 (lb ba 1 : Nat), .int .u64 (lb ba 2 : Nat), .int .u64 (lb ba 3 : Nat), .string rt, .string cd, .bool hs, .string co, .slice cp cn cc] 65)).alloc (.cells #[.int .u64 (lb ba 0 : Nat), .int .u64 (lb ba 1 : Nat), .int .u64 (lb ba 2 : Nat), .int .u64 (lb ba 3 : Nat)] 25)) = W2 at *
      have E1 := (b2.cell (p := ⟨q, 1, none⟩) hlt).trans c1
      rw [show ba = baF L [] a from hba.symm] at pb
      go_loopw [9] (fun v wr => ∃ i : Nat, i ≤ R.length ∧ v = .int .i64 (i : Nat) ∧ Fr (fun k => k = wa.heap.size + 1) W2 wr ∧ wr.heap[wa.heap.size + 1]? = some (.cells #[.int .u64 (lb (baF L (R.drop (R.length - i)) a) 0 : Nat), .int .u64 (lb (baF L (R.drop (R.length - i)) a) 1 : Nat), .int .u64 (lb (baF L (R.drop (R.length - i)) a) 2 : Nat), .int .u64 (lb (baF L (R.drop (R.length - i)) a) 3 : Nat)] 25 (0, 0))) (fun v _ => R.length - (intOf v).toNat)
      case atStart =>
        refine ⟨0, Nat.zero_le _, rfl, Fr.refl _ _, ?_⟩
        rw [Nat.sub_zero, List.drop_length]
        exact pb
      case round =>
        obtain ⟨i, hi, rfl, hFr, hp⟩ := hrel
        have szr := hFr.size
        by_cases hli : i < R.length
        · obtain ⟨c, hc, hd⟩ := rev_at hli
          obtain ⟨gb, rfl, hgl⟩ := HG.out (by omega)
          have hcc := HC.out i c hc
          have hcm := HO.out c (List.mem_reverse.1 (List.mem_of_getElem? hc))
          have hva := Chg.va_lt hcm
          have G := fun j u hu => ((b2.cell (p := ⟨gb, i * 14 + j, none⟩) hgl).trans (by obtain ⟨gb2, e, hx⟩ := hcc j u hu; cases e; exact hx))
          have G0 : _ = some (Value.int .i64 (c.ki : Nat)) := G 0 _ rfl
          have G1 : _ = some (Value.string c.fr) := G 1 _ rfl
          have G2 : _ = some (Value.string c.to) := G 2 _ rfl
          have G7 : _ = some (Value.int .u64 (lb c.va 0 : Nat)) := G 7 _ rfl
          have G8 : _ = some (Value.int .u64 (lb c.va 1 : Nat)) := G 8 _ rfl
          have G9 : _ = some (Value.int .u64 (lb c.va 2 : Nat)) := G 9 _ rfl
          have G10 : _ = some (Value.int .u64 (lb c.va 3 : Nat)) := G 10 _ rfl
          rw [Nat.add_zero] at G0
          have hst := baF_step (L := L) (c := c) (R := R.drop (R.length - i)) (a := a)
          rw [← hd, show R.length - 1 - i = R.length - (i + 1) by omega] at hst
          have hx := hbf.out (R.drop (R.length - i))
          clear G hcc hcm hc hd
          generalize baF L (R.drop (R.length - i)) a = x at *
          generalize c.ki = ki at *
          generalize c.fr = fr at *
          generalize c.to = to' at *
          generalize c.va = va at *
          have eq1 := hFr.cell E1 (by omega) (by omega)
          have g0 := hFr.cell G0 (by omega) (by omega)
          have g1 := hFr.cell G1 (by omega) (by omega)
          have g2 := hFr.cell G2 (by omega) (by omega)
          have g7 := hFr.cell G7 (by omega) (by omega)
          have g8 := hFr.cell G8 (by omega) (by omega)
          have g9 := hFr.cell G9 (by omega) (by omega)
          have g10 := hFr.cell G10 (by omega) (by omega)
          have hFwr := Lib.hid hFr
          clear hFr
          by_cases h1 : ki = 3
          · subst h1
            by_cases h2 : fr = a
            · subst h2
              obtain ⟨y, hy⟩ : ∃ y, y = subN x va := ⟨_, rfl⟩
              have hyl : y < Q256 := by rw [hy]; exact subN_lt _ _
              have cS : ∀ w, Calls Tryd.prog 75 #[W4 x, W4 va] w fun e w' => e = .returned (W4 y) ∧ Below w.heap.size w w' := fun w => by rw [hy]; exact ref_Sub x va hx hva w
              by_cases h3 : to' = fr
              · subst h3
                obtain ⟨z, hz⟩ : ∃ z, z = addN y va := ⟨_, rfl⟩
                have cA : ∀ w, Calls Tryd.prog 76 #[W4 y, W4 va] w fun e w' => e = .returned (W4 z) ∧ Below w.heap.size w w' := fun w => by rw [hz]; exact ref_Add y va hyl hva w
                simp only [and_self, if_true, ← hy, ← hz] at hst
                clear hy hz
                go_wp2
                refine wp_flowU (fun k => ([1, 1, 1, 1, 1, 1, 1, 1, 1, 2, 2] : List Nat).getD k 1) (stR wr (wa.heap.size + 1) (.cells #[.int .u64 (lb x 0 : Nat), .int .u64 (lb x 1 : Nat), .int .u64 (lb x 2 : Nat), .int .u64 (lb x 3 : Nat)] 25) (.cells #[.int .u64 (lb y 0 : Nat), .int .u64 (lb y 1 : Nat), .int .u64 (lb y 2 : Nat), .int .u64 (lb y 3 : Nat)] 25)) (fun _ => True) (false) (⟨Fr.drew (Fr.refl _ _), hp⟩) trivial (by kernel_rfl) (by kernel_rfl) ?_
                iterate 9 ((refine flowU_readE rfl rfl (fun K hK => ?_); apply Exists.intro; apply And.intro; (focus (intro w' hR; (try have hq := hR.now); (try simp only [Bool.false_eq_true, if_false] at hq); (try obtain ⟨p0, p1, p2, p3⟩ := cells4w hq); have y1 := hR.fr.cell eq1 (by omega) (by omega); have y7 := hR.fr.cell g7 (by omega) (by omega); have y8 := hR.fr.cell g8 (by omega) (by omega); have y9 := hR.fr.cell g9 (by omega) (by omega); have y10 := hR.fr.cell g10 (by omega) (by omega); clear hR; go_simp; (try go_bits); exact rfl)); go_simp; (try go_bits); refine hK _ ?_; clear hK K))
                refine flowU_step (fun v s => v = .agg #[.int .u64 (lb y 0 : Nat), .int .u64 (lb y 1 : Nat), .int .u64 (lb y 2 : Nat), .int .u64 (lb y 3 : Nat)] ∧ s = false) (by decide) rfl ⟨_, false, rfl, rfl⟩ (fun w' hR => ?_) (fun _ _ _ _ _ => trivial) (fun K hK v s2 hs2 => ?_)
                focus
                  have hq := hR.now
                  simp only [Bool.false_eq_true, if_false] at hq
                  have hfr := hR.fr
                  have cS := cS w'
                  clear hR
                  go_simp
                  refine cS.mono ?_
                  rintro e w2 ⟨rfl, hb⟩
                  exact ⟨_, rfl, rfl, hfr.trans ⟨hb.os, hb.tape, hb.output, hb.size, fun j hj hT => hb.block j hj⟩, by simp only [Bool.false_eq_true, if_false]; exact (hb.block _ (Array.getElem?_eq_some_iff.1 hq).1).trans hq⟩
                obtain ⟨rfl, rfl⟩ := hs2
                (go_simp; refine hK _ _ ?_; clear hK K)
                refine flowU_step (fun v s => v = undef ∧ s = true) (by decide) rfl ⟨undef, true, rfl, rfl⟩ (fun w' hR => ?_) (fun _ _ _ _ _ => trivial) (fun K hK v s2 hs2 => ?_)
                focus
                  have hq := hR.now
                  simp only [Bool.false_eq_true, if_false] at hq
                  obtain ⟨q0, q1, q2, q3⟩ := cells4w hq
                  have qf : ∀ j, w'.frozen? ⟨wa.heap.size + 1, j, none⟩ = false := fun j => by simp [World.frozen?, hq]
                  have hfr := hR.fr
                  clear hR
                  go_simp
                  exact ⟨(((hfr.setCell (.inl rfl) _).setCell (.inl rfl) _).setCell (.inl rfl) _).setCell (.inl rfl) _, by simpa using store4 hq _ _ _ _⟩
                obtain ⟨rfl, rfl⟩ := hs2
                (go_simp; refine hK _ _ ?_; clear hK K)
                refine flowU_nil ?_
                intro w2 hR
                have hp2 := hR.now
                have hFw2 := hFwr.out.trans hR.fr
                clear hR hp eq1 g0 g1 g2 g7 g8 g9 g10
                simp only [if_true] at hp2
                have szw2 := hFw2.size
                have eq1 := hFw2.cell E1 (by omega) (by omega)
                have g0 := hFw2.cell G0 (by omega) (by omega)
                have g1 := hFw2.cell G1 (by omega) (by omega)
                have g2 := hFw2.cell G2 (by omega) (by omega)
                have g7 := hFw2.cell G7 (by omega) (by omega)
                have g8 := hFw2.cell G8 (by omega) (by omega)
                have g9 := hFw2.cell G9 (by omega) (by omega)
                have g10 := hFw2.cell G10 (by omega) (by omega)
                have hp := hp2
                clear hp2
                replace hFw2 := Lib.hid hFw2
                go_wp2
                refine wp_flowU (fun k => ([1, 1, 1, 1, 1, 1, 1, 1, 1, 2, 2] : List Nat).getD k 1) (stR w2 (wa.heap.size + 1) (.cells #[.int .u64 (lb y 0 : Nat), .int .u64 (lb y 1 : Nat), .int .u64 (lb y 2 : Nat), .int .u64 (lb y 3 : Nat)] 25) (.cells #[.int .u64 (lb z 0 : Nat), .int .u64 (lb z 1 : Nat), .int .u64 (lb z 2 : Nat), .int .u64 (lb z 3 : Nat)] 25)) (fun _ => True) (false) (⟨Fr.drew (Fr.refl _ _), hp⟩) trivial (by kernel_rfl) (by kernel_rfl) ?_
                iterate 9 ((refine flowU_readE rfl rfl (fun K hK => ?_); apply Exists.intro; apply And.intro; (focus (intro w' hR; (try have hq := hR.now); (try simp only [Bool.false_eq_true, if_false] at hq); (try obtain ⟨p0, p1, p2, p3⟩ := cells4w hq); have y1 := hR.fr.cell eq1 (by omega) (by omega); have y7 := hR.fr.cell g7 (by omega) (by omega); have y8 := hR.fr.cell g8 (by omega) (by omega); have y9 := hR.fr.cell g9 (by omega) (by omega); have y10 := hR.fr.cell g10 (by omega) (by omega); clear hR; go_simp; (try go_bits); exact rfl)); go_simp; (try go_bits); refine hK _ ?_; clear hK K))
                refine flowU_step (fun v s => v = .agg #[.int .u64 (lb z 0 : Nat), .int .u64 (lb z 1 : Nat), .int .u64 (lb z 2 : Nat), .int .u64 (lb z 3 : Nat)] ∧ s = false) (by decide) rfl ⟨_, false, rfl, rfl⟩ (fun w' hR => ?_) (fun _ _ _ _ _ => trivial) (fun K hK v s2 hs2 => ?_)
                focus
                  have hq := hR.now
                  simp only [Bool.false_eq_true, if_false] at hq
                  have hfr := hR.fr
                  have cS := cA w'
                  clear hR
                  go_simp
                  refine cS.mono ?_
                  rintro e w2 ⟨rfl, hb⟩
                  exact ⟨_, rfl, rfl, hfr.trans ⟨hb.os, hb.tape, hb.output, hb.size, fun j hj hT => hb.block j hj⟩, by simp only [Bool.false_eq_true, if_false]; exact (hb.block _ (Array.getElem?_eq_some_iff.1 hq).1).trans hq⟩
                obtain ⟨rfl, rfl⟩ := hs2
                (go_simp; refine hK _ _ ?_; clear hK K)
                refine flowU_step (fun v s => v = undef ∧ s = true) (by decide) rfl ⟨undef, true, rfl, rfl⟩ (fun w' hR => ?_) (fun _ _ _ _ _ => trivial) (fun K hK v s2 hs2 => ?_)
                focus
                  have hq := hR.now
                  simp only [Bool.false_eq_true, if_false] at hq
                  obtain ⟨q0, q1, q2, q3⟩ := cells4w hq
                  have qf : ∀ j, w'.frozen? ⟨wa.heap.size + 1, j, none⟩ = false := fun j => by simp [World.frozen?, hq]
                  have hfr := hR.fr
                  clear hR
                  go_simp
                  exact ⟨(((hfr.setCell (.inl rfl) _).setCell (.inl rfl) _).setCell (.inl rfl) _).setCell (.inl rfl) _, by simpa using store4 hq _ _ _ _⟩
                obtain ⟨rfl, rfl⟩ := hs2
                (go_simp; refine hK _ _ ?_; clear hK K)
                refine flowU_nil ?_
                intro w3 hR
                have hp2 := hR.now
                have hFw3 := hFw2.out.trans hR.fr
                clear hR hp eq1 g0 g1 g2 g7 g8 g9 g10
                simp only [if_true] at hp2
                have szw3 := hFw3.size
                have eq1 := hFw3.cell E1 (by omega) (by omega)
                have g0 := hFw3.cell G0 (by omega) (by omega)
                have g1 := hFw3.cell G1 (by omega) (by omega)
                have g2 := hFw3.cell G2 (by omega) (by omega)
                have g7 := hFw3.cell G7 (by omega) (by omega)
                have g8 := hFw3.cell G8 (by omega) (by omega)
                have g9 := hFw3.cell G9 (by omega) (by omega)
                have g10 := hFw3.cell G10 (by omega) (by omega)
                have hp := hp2
                clear hp2
                replace hFw3 := Lib.hid hFw3
                go_wp2
                go_roundw
                case rel => exact ⟨i + 1, by omega, by go_num, hFw3.out, by rw [hst]; exact hp⟩
                case measure => simp [intOf]; omega
              · have hq3 : (to'.toList == fr.toList) = false := by rw [beqS]; exact decide_eq_false h3
                simp only [h3, and_self, and_false, if_true, if_false, ← hy] at hst
                clear hy
                go_wp2
                refine wp_flowU (fun k => ([1, 1, 1, 1, 1, 1, 1, 1, 1, 2, 2] : List Nat).getD k 1) (stR wr (wa.heap.size + 1) (.cells #[.int .u64 (lb x 0 : Nat), .int .u64 (lb x 1 : Nat), .int .u64 (lb x 2 : Nat), .int .u64 (lb x 3 : Nat)] 25) (.cells #[.int .u64 (lb y 0 : Nat), .int .u64 (lb y 1 : Nat), .int .u64 (lb y 2 : Nat), .int .u64 (lb y 3 : Nat)] 25)) (fun _ => True) (false) (⟨Fr.drew (Fr.refl _ _), hp⟩) trivial (by kernel_rfl) (by kernel_rfl) ?_
                iterate 9 ((refine flowU_readE rfl rfl (fun K hK => ?_); apply Exists.intro; apply And.intro; (focus (intro w' hR; (try have hq := hR.now); (try simp only [Bool.false_eq_true, if_false] at hq); (try obtain ⟨p0, p1, p2, p3⟩ := cells4w hq); have y1 := hR.fr.cell eq1 (by omega) (by omega); have y7 := hR.fr.cell g7 (by omega) (by omega); have y8 := hR.fr.cell g8 (by omega) (by omega); have y9 := hR.fr.cell g9 (by omega) (by omega); have y10 := hR.fr.cell g10 (by omega) (by omega); clear hR; go_simp; (try go_bits); exact rfl)); go_simp; (try go_bits); refine hK _ ?_; clear hK K))
                refine flowU_step (fun v s => v = .agg #[.int .u64 (lb y 0 : Nat), .int .u64 (lb y 1 : Nat), .int .u64 (lb y 2 : Nat), .int .u64 (lb y 3 : Nat)] ∧ s = false) (by decide) rfl ⟨_, false, rfl, rfl⟩ (fun w' hR => ?_) (fun _ _ _ _ _ => trivial) (fun K hK v s2 hs2 => ?_)
                focus
                  have hq := hR.now
                  simp only [Bool.false_eq_true, if_false] at hq
                  have hfr := hR.fr
                  have cS := cS w'
                  clear hR
                  go_simp
                  refine cS.mono ?_
                  rintro e w2 ⟨rfl, hb⟩
                  exact ⟨_, rfl, rfl, hfr.trans ⟨hb.os, hb.tape, hb.output, hb.size, fun j hj hT => hb.block j hj⟩, by simp only [Bool.false_eq_true, if_false]; exact (hb.block _ (Array.getElem?_eq_some_iff.1 hq).1).trans hq⟩
                obtain ⟨rfl, rfl⟩ := hs2
                (go_simp; refine hK _ _ ?_; clear hK K)
                refine flowU_step (fun v s => v = undef ∧ s = true) (by decide) rfl ⟨undef, true, rfl, rfl⟩ (fun w' hR => ?_) (fun _ _ _ _ _ => trivial) (fun K hK v s2 hs2 => ?_)
                focus
                  have hq := hR.now
                  simp only [Bool.false_eq_true, if_false] at hq
                  obtain ⟨q0, q1, q2, q3⟩ := cells4w hq
                  have qf : ∀ j, w'.frozen? ⟨wa.heap.size + 1, j, none⟩ = false := fun j => by simp [World.frozen?, hq]
                  have hfr := hR.fr
                  clear hR
                  go_simp
                  exact ⟨(((hfr.setCell (.inl rfl) _).setCell (.inl rfl) _).setCell (.inl rfl) _).setCell (.inl rfl) _, by simpa using store4 hq _ _ _ _⟩
                obtain ⟨rfl, rfl⟩ := hs2
                (go_simp; refine hK _ _ ?_; clear hK K)
                refine flowU_nil ?_
                intro w2 hR
                have hp2 := hR.now
                have hFw2 := hFwr.out.trans hR.fr
                clear hR hp eq1 g0 g1 g2 g7 g8 g9 g10
                simp only [if_true] at hp2
                have szw2 := hFw2.size
                have eq1 := hFw2.cell E1 (by omega) (by omega)
                have g0 := hFw2.cell G0 (by omega) (by omega)
                have g1 := hFw2.cell G1 (by omega) (by omega)
                have g2 := hFw2.cell G2 (by omega) (by omega)
                have g7 := hFw2.cell G7 (by omega) (by omega)
                have g8 := hFw2.cell G8 (by omega) (by omega)
                have g9 := hFw2.cell G9 (by omega) (by omega)
                have g10 := hFw2.cell G10 (by omega) (by omega)
                have hp := hp2
                clear hp2
                replace hFw2 := Lib.hid hFw2
                go_wp2
                go_roundw
                case rel => exact ⟨i + 1, by omega, by go_num, hFw2.out, by rw [hst]; exact hp⟩
                case measure => simp [intOf]; omega
            · have hq2 : (fr.toList == a.toList) = false := by rw [beqS]; exact decide_eq_false h2
              by_cases h3 : to' = a
              · subst h3
                obtain ⟨z, hz⟩ : ∃ z, z = addN x va := ⟨_, rfl⟩
                have cA : ∀ w, Calls Tryd.prog 76 #[W4 x, W4 va] w fun e w' => e = .returned (W4 z) ∧ Below w.heap.size w w' := fun w => by rw [hz]; exact ref_Add x va hx hva w
                simp only [h2, and_self, and_false, if_true, if_false, ← hz] at hst
                clear hz
                go_wp2
                refine wp_flowU (fun k => ([1, 1, 1, 1, 1, 1, 1, 1, 1, 2, 2] : List Nat).getD k 1) (stR wr (wa.heap.size + 1) (.cells #[.int .u64 (lb x 0 : Nat), .int .u64 (lb x 1 : Nat), .int .u64 (lb x 2 : Nat), .int .u64 (lb x 3 : Nat)] 25) (.cells #[.int .u64 (lb z 0 : Nat), .int .u64 (lb z 1 : Nat), .int .u64 (lb z 2 : Nat), .int .u64 (lb z 3 : Nat)] 25)) (fun _ => True) (false) (⟨Fr.drew (Fr.refl _ _), hp⟩) trivial (by kernel_rfl) (by kernel_rfl) ?_
                iterate 9 ((refine flowU_readE rfl rfl (fun K hK => ?_); apply Exists.intro; apply And.intro; (focus (intro w' hR; (try have hq := hR.now); (try simp only [Bool.false_eq_true, if_false] at hq); (try obtain ⟨p0, p1, p2, p3⟩ := cells4w hq); have y1 := hR.fr.cell eq1 (by omega) (by omega); have y7 := hR.fr.cell g7 (by omega) (by omega); have y8 := hR.fr.cell g8 (by omega) (by omega); have y9 := hR.fr.cell g9 (by omega) (by omega); have y10 := hR.fr.cell g10 (by omega) (by omega); clear hR; go_simp; (try go_bits); exact rfl)); go_simp; (try go_bits); refine hK _ ?_; clear hK K))
                refine flowU_step (fun v s => v = .agg #[.int .u64 (lb z 0 : Nat), .int .u64 (lb z 1 : Nat), .int .u64 (lb z 2 : Nat), .int .u64 (lb z 3 : Nat)] ∧ s = false) (by decide) rfl ⟨_, false, rfl, rfl⟩ (fun w' hR => ?_) (fun _ _ _ _ _ => trivial) (fun K hK v s2 hs2 => ?_)
                focus
                  have hq := hR.now
                  simp only [Bool.false_eq_true, if_false] at hq
                  have hfr := hR.fr
                  have cS := cA w'
                  clear hR
                  go_simp
                  refine cS.mono ?_
                  rintro e w2 ⟨rfl, hb⟩
                  exact ⟨_, rfl, rfl, hfr.trans ⟨hb.os, hb.tape, hb.output, hb.size, fun j hj hT => hb.block j hj⟩, by simp only [Bool.false_eq_true, if_false]; exact (hb.block _ (Array.getElem?_eq_some_iff.1 hq).1).trans hq⟩
                obtain ⟨rfl, rfl⟩ := hs2
                (go_simp; refine hK _ _ ?_; clear hK K)
                refine flowU_step (fun v s => v = undef ∧ s = true) (by decide) rfl ⟨undef, true, rfl, rfl⟩ (fun w' hR => ?_) (fun _ _ _ _ _ => trivial) (fun K hK v s2 hs2 => ?_)
                focus
                  have hq := hR.now
                  simp only [Bool.false_eq_true, if_false] at hq
                  obtain ⟨q0, q1, q2, q3⟩ := cells4w hq
                  have qf : ∀ j, w'.frozen? ⟨wa.heap.size + 1, j, none⟩ = false := fun j => by simp [World.frozen?, hq]
                  have hfr := hR.fr
                  clear hR
                  go_simp
                  exact ⟨(((hfr.setCell (.inl rfl) _).setCell (.inl rfl) _).setCell (.inl rfl) _).setCell (.inl rfl) _, by simpa using store4 hq _ _ _ _⟩
                obtain ⟨rfl, rfl⟩ := hs2
                (go_simp; refine hK _ _ ?_; clear hK K)
                refine flowU_nil ?_
                intro w2 hR
                have hp2 := hR.now
                have hFw2 := hFwr.out.trans hR.fr
                clear hR hp eq1 g0 g1 g2 g7 g8 g9 g10
                simp only [if_true] at hp2
                have szw2 := hFw2.size
                have eq1 := hFw2.cell E1 (by omega) (by omega)
                have g0 := hFw2.cell G0 (by omega) (by omega)
                have g1 := hFw2.cell G1 (by omega) (by omega)
                have g2 := hFw2.cell G2 (by omega) (by omega)
                have g7 := hFw2.cell G7 (by omega) (by omega)
                have g8 := hFw2.cell G8 (by omega) (by omega)
                have g9 := hFw2.cell G9 (by omega) (by omega)
                have g10 := hFw2.cell G10 (by omega) (by omega)
                have hp := hp2
                clear hp2
                replace hFw2 := Lib.hid hFw2
                go_wp2
                go_roundw
                case rel => exact ⟨i + 1, by omega, by go_num, hFw2.out, by rw [hst]; exact hp⟩
                case measure => simp [intOf]; omega
              · have hq3 : (to'.toList == a.toList) = false := by rw [beqS]; exact decide_eq_false h3
                simp only [h2, h3, and_false, if_false] at hst
                go_wp2
                go_roundw
                case rel => exact ⟨i + 1, by omega, by go_num, hFwr.out, by rw [hst]; exact hp⟩
                case measure => simp [intOf]; omega
          · have hq1 : (((ki : Nat) : Int) == 3) = false := by simp only [beq_eq_false_iff_ne, ne_eq]; omega
            simp only [h1, false_and, if_false] at hst
            go_wp2
            go_roundw
            case rel => exact ⟨i + 1, by omega, by go_num, hFwr.out, by rw [hst]; exact hp⟩
            case measure => simp [intOf]; omega
        · obtain rfl : i = R.length := by omega
          rw [Nat.sub_self, List.drop_zero] at hp
          obtain ⟨p0, p1, p2, p3⟩ := cells4w hp
          have eq1 := hFr.cell E1 (by omega) (by omega)
          have hB : Below W.heap.size W wr := b2.trans (hFr.toBelow (by omega) (fun k hk => by omega))
          have rb2 := (hFr.block _ (by omega) (by omega)).trans rb
          obtain ⟨q0, q1, q2, q3⟩ := cells4w rb2
          have qf : ∀ j, wr.frozen? ⟨W.heap.size, j, none⟩ = false := fun j => by simp [World.frozen?, rb2]
          clear hFr hp
          go_wp2
          refine bodyPost_ret (by simp only [results, Tryd.results62]; go_simp; try rfl) rfl ⟨rfl, ?_⟩
          exact (((hB.setCell (Nat.le_refl _) _).setCell (Nat.le_refl _) _).setCell (Nat.le_refl _) _).setCell (Nat.le_refl _) _
    | false =>
      go_enter Tryd.func62, Tryd.ntmps62
      go_wp2_with (go_at_call 74; refine (cF _).mono ?_; rintro e wa ⟨rfl, hb_wa⟩; have hc_wa := (bcell hb_wa).1; have hf_wa := (bcell hb_wa).2; have hz_wa : _ ≤ wa.heap.size := hb_wa.size; (try simp only [World.size_alloc, World.heap_drewN, World.size_setCell, heap_drew] at hc_wa hf_wa hz_wa); have hz_wa_W_0 : W.heap.size < wa.heap.size := (by omega))
      have zb : ((wa.alloc (.cells #[.string ad, .bool false, .int .u64 no, .int .u64 (lb ba 0 : Nat), .int .u64 (lb ba 1 : Nat), .int .u64 (lb ba 2 : Nat), .int .u64 (lb ba 3 : Nat), .string rt, .string cd, .bool hs, .string co, .slice cp cn cc] 65)).alloc (.cells #[.int .u64 0, .int .u64 0, .int .u64 0, .int .u64 0] 25)).heap[wa.heap.size + 1]? = some (.cells #[.int .u64 0, .int .u64 0, .int .u64 0, .int .u64 0] 25 (0, 0)) := heap_new (by simp)
      have rb0 : wa.heap[W.heap.size]? = some (.cells #[.int .u64 0, .int .u64 0, .int .u64 0, .int .u64 0] 25 (0, 0)) := (hb_wa.block _ (by simp)).trans (heap_new rfl)
      have b1 : Below W.heap.size W ((wa.alloc (.cells #[.string ad, .bool false, .int .u64 no, .int .u64 (lb ba 0 : Nat), .int .u64 (lb ba 1 : Nat), .int .u64 (lb ba 2 : Nat), .int .u64 (lb ba 3 : Nat), .string rt, .string cd, .bool hs, .string co, .slice cp cn cc] 65)).alloc (.cells #[.int .u64 0, .int .u64 0, .int .u64 0, .int .u64 0] 25)) := by
        repeat (with_reducible first | exact Below.refl _ _ | assumption | refine below_drewN ?_ _ | refine Below.drew ?_ | refine Below.setCell ?_ (by first | omega | (simp; done) | (simp; omega)) _ | refine Below.alloc ?_ (by first | omega | (simp; done) | (simp; omega)) _ | refine Below.trans ?_ (Below.mono (by assumption) (by first | omega | (simp; done) | (simp; omega))))
      have rb1 : ((wa.alloc (.cells #[.string ad, .bool false, .int .u64 no, .int .u64 (lb ba 0 : Nat), .int .u64 (lb ba 1 : Nat), .int .u64 (lb ba 2 : Nat), .int .u64 (lb ba 3 : Nat), .string rt, .string cd, .bool hs, .string co, .slice cp cn cc] 65)).alloc (.cells #[.int .u64 0, .int .u64 0, .int .u64 0, .int .u64 0] 25)).heap[W.heap.size]? = some (.cells #[.int .u64 0, .int .u64 0, .int .u64 0, .int .u64 0] 25 (0, 0)) := (Below.heap_alloc _ _ _ (by simp; omega)).trans ((Below.heap_alloc _ _ _ (by omega)).trans rb0)
      have z1 : wa.heap.size + 2 ≤ ((wa.alloc (.cells #[.string ad, .bool false, .int .u64 no, .int .u64 (lb ba 0 : Nat), .int .u64 (lb ba 1 : Nat), .int .u64 (lb ba 2 : Nat), .int .u64 (lb ba 3 : Nat), .string rt, .string cd, .bool hs, .string co, .slice cp cn cc] 65)).alloc (.cells #[.int .u64 0, .int .u64 0, .int .u64 0, .int .u64 0] 25)).heap.size := by simp
      have pb := zb
      have b2 := b1
      have rb := rb1
      have z2 := z1
      clear zb b1 rb1 z1 hc_wa hf_wa cF rb0 hb_wa
      generalize ((wa.alloc (.cells #[.string ad, .bool false, .int .u64 no, .int .u64 (lb ba 0 : Nat), .int .u64 (lb ba 1 : Nat), .int .u64 (lb ba 2 : Nat), .int .u64 (lb ba 3 : Nat), .string rt, .string cd, .bool hs, .string co, .slice cp cn cc] 65)).alloc (.cells #[.int .u64 0, .int .u64 0, .int .u64 0, .int .u64 0] 25)) = W2 at *
      have E1 := (b2.cell (p := ⟨q, 1, none⟩) hlt).trans c1
      have hz0 : baF L [] a = 0 := hba
      have pb2 : W2.heap[wa.heap.size + 1]? = some (.cells #[.int .u64 (lb (baF L [] a) 0 : Nat), .int .u64 (lb (baF L [] a) 1 : Nat), .int .u64 (lb (baF L [] a) 2 : Nat), .int .u64 (lb (baF L [] a) 3 : Nat)] 25 (0, 0)) := by rw [hz0]; simpa only [lb_nil, Int.natCast_zero] using pb
      clear pb
      have pb := pb2
      clear pb2
      go_loopw [9] (fun v wr => ∃ i : Nat, i ≤ R.length ∧ v = .int .i64 (i : Nat) ∧ Fr (fun k => k = wa.heap.size + 1) W2 wr ∧ wr.heap[wa.heap.size + 1]? = some (.cells #[.int .u64 (lb (baF L (R.drop (R.length - i)) a) 0 : Nat), .int .u64 (lb (baF L (R.drop (R.length - i)) a) 1 : Nat), .int .u64 (lb (baF L (R.drop (R.length - i)) a) 2 : Nat), .int .u64 (lb (baF L (R.drop (R.length - i)) a) 3 : Nat)] 25 (0, 0))) (fun v _ => R.length - (intOf v).toNat)
      case atStart =>
        refine ⟨0, Nat.zero_le _, rfl, Fr.refl _ _, ?_⟩
        rw [Nat.sub_zero, List.drop_length]
        exact pb
      case round =>
        obtain ⟨i, hi, rfl, hFr, hp⟩ := hrel
        have szr := hFr.size
        by_cases hli : i < R.length
        · obtain ⟨c, hc, hd⟩ := rev_at hli
          obtain ⟨gb, rfl, hgl⟩ := HG.out (by omega)
          have hcc := HC.out i c hc
          have hcm := HO.out c (List.mem_reverse.1 (List.mem_of_getElem? hc))
          have hva := Chg.va_lt hcm
          have G := fun j u hu => ((b2.cell (p := ⟨gb, i * 14 + j, none⟩) hgl).trans (by obtain ⟨gb2, e, hx⟩ := hcc j u hu; cases e; exact hx))
          have G0 : _ = some (Value.int .i64 (c.ki : Nat)) := G 0 _ rfl
          have G1 : _ = some (Value.string c.fr) := G 1 _ rfl
          have G2 : _ = some (Value.string c.to) := G 2 _ rfl
          have G7 : _ = some (Value.int .u64 (lb c.va 0 : Nat)) := G 7 _ rfl
          have G8 : _ = some (Value.int .u64 (lb c.va 1 : Nat)) := G 8 _ rfl
          have G9 : _ = some (Value.int .u64 (lb c.va 2 : Nat)) := G 9 _ rfl
          have G10 : _ = some (Value.int .u64 (lb c.va 3 : Nat)) := G 10 _ rfl
          rw [Nat.add_zero] at G0
          have hst := baF_step (L := L) (c := c) (R := R.drop (R.length - i)) (a := a)
          rw [← hd, show R.length - 1 - i = R.length - (i + 1) by omega] at hst
          have hx := hbf.out (R.drop (R.length - i))
          clear G hcc hcm hc hd
          generalize baF L (R.drop (R.length - i)) a = x at *
          generalize c.ki = ki at *
          generalize c.fr = fr at *
          generalize c.to = to' at *
          generalize c.va = va at *
          have eq1 := hFr.cell E1 (by omega) (by omega)
          have g0 := hFr.cell G0 (by omega) (by omega)
          have g1 := hFr.cell G1 (by omega) (by omega)
          have g2 := hFr.cell G2 (by omega) (by omega)
          have g7 := hFr.cell G7 (by omega) (by omega)
          have g8 := hFr.cell G8 (by omega) (by omega)
          have g9 := hFr.cell G9 (by omega) (by omega)
          have g10 := hFr.cell G10 (by omega) (by omega)
          have hFwr := Lib.hid hFr
          clear hFr
          by_cases h1 : ki = 3
          · subst h1
            by_cases h2 : fr = a
            · subst h2
              obtain ⟨y, hy⟩ : ∃ y, y = subN x va := ⟨_, rfl⟩
              have hyl : y < Q256 := by rw [hy]; exact subN_lt _ _
              have cS : ∀ w, Calls Tryd.prog 75 #[W4 x, W4 va] w fun e w' => e = .returned (W4 y) ∧ Below w.heap.size w w' := fun w => by rw [hy]; exact ref_Sub x va hx hva w
              by_cases h3 : to' = fr
              · subst h3
                obtain ⟨z, hz⟩ : ∃ z, z = addN y va := ⟨_, rfl⟩
                have cA : ∀ w, Calls Tryd.prog 76 #[W4 y, W4 va] w fun e w' => e = .returned (W4 z) ∧ Below w.heap.size w w' := fun w => by rw [hz]; exact ref_Add y va hyl hva w
                simp only [and_self, if_true, ← hy, ← hz] at hst
                clear hy hz
                go_wp2
                refine wp_flowU (fun k => ([1, 1, 1, 1, 1, 1, 1, 1, 1, 2, 2] : List Nat).getD k 1) (stR wr (wa.heap.size + 1) (.cells #[.int .u64 (lb x 0 : Nat), .int .u64 (lb x 1 : Nat), .int .u64 (lb x 2 : Nat), .int .u64 (lb x 3 : Nat)] 25) (.cells #[.int .u64 (lb y 0 : Nat), .int .u64 (lb y 1 : Nat), .int .u64 (lb y 2 : Nat), .int .u64 (lb y 3 : Nat)] 25)) (fun _ => True) (false) (⟨Fr.drew (Fr.refl _ _), hp⟩) trivial (by kernel_rfl) (by kernel_rfl) ?_
                iterate 9 ((refine flowU_readE rfl rfl (fun K hK => ?_); apply Exists.intro; apply And.intro; (focus (intro w' hR; (try have hq := hR.now); (try simp only [Bool.false_eq_true, if_false] at hq); (try obtain ⟨p0, p1, p2, p3⟩ := cells4w hq); have y1 := hR.fr.cell eq1 (by omega) (by omega); have y7 := hR.fr.cell g7 (by omega) (by omega); have y8 := hR.fr.cell g8 (by omega) (by omega); have y9 := hR.fr.cell g9 (by omega) (by omega); have y10 := hR.fr.cell g10 (by omega) (by omega); clear hR; go_simp; (try go_bits); exact rfl)); go_simp; (try go_bits); refine hK _ ?_; clear hK K))
                refine flowU_step (fun v s => v = .agg #[.int .u64 (lb y 0 : Nat), .int .u64 (lb y 1 : Nat), .int .u64 (lb y 2 : Nat), .int .u64 (lb y 3 : Nat)] ∧ s = false) (by decide) rfl ⟨_, false, rfl, rfl⟩ (fun w' hR => ?_) (fun _ _ _ _ _ => trivial) (fun K hK v s2 hs2 => ?_)
                focus
                  have hq := hR.now
                  simp only [Bool.false_eq_true, if_false] at hq
                  have hfr := hR.fr
                  have cS := cS w'
                  clear hR
                  go_simp
                  refine cS.mono ?_
                  rintro e w2 ⟨rfl, hb⟩
                  exact ⟨_, rfl, rfl, hfr.trans ⟨hb.os, hb.tape, hb.output, hb.size, fun j hj hT => hb.block j hj⟩, by simp only [Bool.false_eq_true, if_false]; exact (hb.block _ (Array.getElem?_eq_some_iff.1 hq).1).trans hq⟩
                obtain ⟨rfl, rfl⟩ := hs2
                (go_simp; refine hK _ _ ?_; clear hK K)
                refine flowU_step (fun v s => v = undef ∧ s = true) (by decide) rfl ⟨undef, true, rfl, rfl⟩ (fun w' hR => ?_) (fun _ _ _ _ _ => trivial) (fun K hK v s2 hs2 => ?_)
                focus
                  have hq := hR.now
                  simp only [Bool.false_eq_true, if_false] at hq
                  obtain ⟨q0, q1, q2, q3⟩ := cells4w hq
                  have qf : ∀ j, w'.frozen? ⟨wa.heap.size + 1, j, none⟩ = false := fun j => by simp [World.frozen?, hq]
                  have hfr := hR.fr
                  clear hR
                  go_simp
                  exact ⟨(((hfr.setCell (.inl rfl) _).setCell (.inl rfl) _).setCell (.inl rfl) _).setCell (.inl rfl) _, by simpa using store4 hq _ _ _ _⟩
                obtain ⟨rfl, rfl⟩ := hs2
                (go_simp; refine hK _ _ ?_; clear hK K)
                refine flowU_nil ?_
                intro w2 hR
                have hp2 := hR.now
                have hFw2 := hFwr.out.trans hR.fr
                clear hR hp eq1 g0 g1 g2 g7 g8 g9 g10
                simp only [if_true] at hp2
                have szw2 := hFw2.size
                have eq1 := hFw2.cell E1 (by omega) (by omega)
                have g0 := hFw2.cell G0 (by omega) (by omega)
                have g1 := hFw2.cell G1 (by omega) (by omega)
                have g2 := hFw2.cell G2 (by omega) (by omega)
                have g7 := hFw2.cell G7 (by omega) (by omega)
                have g8 := hFw2.cell G8 (by omega) (by omega)
                have g9 := hFw2.cell G9 (by omega) (by omega)
                have g10 := hFw2.cell G10 (by omega) (by omega)
                have hp := hp2
                clear hp2
                replace hFw2 := Lib.hid hFw2
                go_wp2
                refine wp_flowU (fun k => ([1, 1, 1, 1, 1, 1, 1, 1, 1, 2, 2] : List Nat).getD k 1) (stR w2 (wa.heap.size + 1) (.cells #[.int .u64 (lb y 0 : Nat), .int .u64 (lb y 1 : Nat), .int .u64 (lb y 2 : Nat), .int .u64 (lb y 3 : Nat)] 25) (.cells #[.int .u64 (lb z 0 : Nat), .int .u64 (lb z 1 : Nat), .int .u64 (lb z 2 : Nat), .int .u64 (lb z 3 : Nat)] 25)) (fun _ => True) (false) (⟨Fr.drew (Fr.refl _ _), hp⟩) trivial (by kernel_rfl) (by kernel_rfl) ?_
                iterate 9 ((refine flowU_readE rfl rfl (fun K hK => ?_); apply Exists.intro; apply And.intro; (focus (intro w' hR; (try have hq := hR.now); (try simp only [Bool.false_eq_true, if_false] at hq); (try obtain ⟨p0, p1, p2, p3⟩ := cells4w hq); have y1 := hR.fr.cell eq1 (by omega) (by omega); have y7 := hR.fr.cell g7 (by omega) (by omega); have y8 := hR.fr.cell g8 (by omega) (by omega); have y9 := hR.fr.cell g9 (by omega) (by omega); have y10 := hR.fr.cell g10 (by omega) (by omega); clear hR; go_simp; (try go_bits); exact rfl)); go_simp; (try go_bits); refine hK _ ?_; clear hK K))
                refine flowU_step (fun v s => v = .agg #[.int .u64 (lb z 0 : Nat), .int .u64 (lb z 1 : Nat), .int .u64 (lb z 2 : Nat), .int .u64 (lb z 3 : Nat)] ∧ s = false) (by decide) rfl ⟨_, false, rfl, rfl⟩ (fun w' hR => ?_) (fun _ _ _ _ _ => trivial) (fun K hK v s2 hs2 => ?_)
                focus
                  have hq := hR.now
                  simp only [Bool.false_eq_true, if_false] at hq
                  have hfr := hR.fr
                  have cS := cA w'
                  clear hR
                  go_simp
                  refine cS.mono ?_
                  rintro e w2 ⟨rfl, hb⟩
                  exact ⟨_, rfl, rfl, hfr.trans ⟨hb.os, hb.tape, hb.output, hb.size, fun j hj hT => hb.block j hj⟩, by simp only [Bool.false_eq_true, if_false]; exact (hb.block _ (Array.getElem?_eq_some_iff.1 hq).1).trans hq⟩
                obtain ⟨rfl, rfl⟩ := hs2
                (go_simp; refine hK _ _ ?_; clear hK K)
                refine flowU_step (fun v s => v = undef ∧ s = true) (by decide) rfl ⟨undef, true, rfl, rfl⟩ (fun w' hR => ?_) (fun _ _ _ _ _ => trivial) (fun K hK v s2 hs2 => ?_)
                focus
                  have hq := hR.now
                  simp only [Bool.false_eq_true, if_false] at hq
                  obtain ⟨q0, q1, q2, q3⟩ := cells4w hq
                  have qf : ∀ j, w'.frozen? ⟨wa.heap.size + 1, j, none⟩ = false := fun j => by simp [World.frozen?, hq]
                  have hfr := hR.fr
                  clear hR
                  go_simp
                  exact ⟨(((hfr.setCell (.inl rfl) _).setCell (.inl rfl) _).setCell (.inl rfl) _).setCell (.inl rfl) _, by simpa using store4 hq _ _ _ _⟩
                obtain ⟨rfl, rfl⟩ := hs2
                (go_simp; refine hK _ _ ?_; clear hK K)
                refine flowU_nil ?_
                intro w3 hR
                have hp2 := hR.now
                have hFw3 := hFw2.out.trans hR.fr
                clear hR hp eq1 g0 g1 g2 g7 g8 g9 g10
                simp only [if_true] at hp2
                have szw3 := hFw3.size
                have eq1 := hFw3.cell E1 (by omega) (by omega)
                have g0 := hFw3.cell G0 (by omega) (by omega)
                have g1 := hFw3.cell G1 (by omega) (by omega)
                have g2 := hFw3.cell G2 (by omega) (by omega)
                have g7 := hFw3.cell G7 (by omega) (by omega)
                have g8 := hFw3.cell G8 (by omega) (by omega)
                have g9 := hFw3.cell G9 (by omega) (by omega)
                have g10 := hFw3.cell G10 (by omega) (by omega)
                have hp := hp2
                clear hp2
                replace hFw3 := Lib.hid hFw3
                go_wp2
                go_roundw
                case rel => exact ⟨i + 1, by omega, by go_num, hFw3.out, by rw [hst]; exact hp⟩
                case measure => simp [intOf]; omega
              · have hq3 : (to'.toList == fr.toList) = false := by rw [beqS]; exact decide_eq_false h3
                simp only [h3, and_self, and_false, if_true, if_false, ← hy] at hst
                clear hy
                go_wp2
                refine wp_flowU (fun k => ([1, 1, 1, 1, 1, 1, 1, 1, 1, 2, 2] : List Nat).getD k 1) (stR wr (wa.heap.size + 1) (.cells #[.int .u64 (lb x 0 : Nat), .int .u64 (lb x 1 : Nat), .int .u64 (lb x 2 : Nat), .int .u64 (lb x 3 : Nat)] 25) (.cells #[.int .u64 (lb y 0 : Nat), .int .u64 (lb y 1 : Nat), .int .u64 (lb y 2 : Nat), .int .u64 (lb y 3 : Nat)] 25)) (fun _ => True) (false) (⟨Fr.drew (Fr.refl _ _), hp⟩) trivial (by kernel_rfl) (by kernel_rfl) ?_
                iterate 9 ((refine flowU_readE rfl rfl (fun K hK => ?_); apply Exists.intro; apply And.intro; (focus (intro w' hR; (try have hq := hR.now); (try simp only [Bool.false_eq_true, if_false] at hq); (try obtain ⟨p0, p1, p2, p3⟩ := cells4w hq); have y1 := hR.fr.cell eq1 (by omega) (by omega); have y7 := hR.fr.cell g7 (by omega) (by omega); have y8 := hR.fr.cell g8 (by omega) (by omega); have y9 := hR.fr.cell g9 (by omega) (by omega); have y10 := hR.fr.cell g10 (by omega) (by omega); clear hR; go_simp; (try go_bits); exact rfl)); go_simp; (try go_bits); refine hK _ ?_; clear hK K))
                refine flowU_step (fun v s => v = .agg #[.int .u64 (lb y 0 : Nat), .int .u64 (lb y 1 : Nat), .int .u64 (lb y 2 : Nat), .int .u64 (lb y 3 : Nat)] ∧ s = false) (by decide) rfl ⟨_, false, rfl, rfl⟩ (fun w' hR => ?_) (fun _ _ _ _ _ => trivial) (fun K hK v s2 hs2 => ?_)
                focus
                  have hq := hR.now
                  simp only [Bool.false_eq_true, if_false] at hq
                  have hfr := hR.fr
                  have cS := cS w'
                  clear hR
                  go_simp
                  refine cS.mono ?_
                  rintro e w2 ⟨rfl, hb⟩
                  exact ⟨_, rfl, rfl, hfr.trans ⟨hb.os, hb.tape, hb.output, hb.size, fun j hj hT => hb.block j hj⟩, by simp only [Bool.false_eq_true, if_false]; exact (hb.block _ (Array.getElem?_eq_some_iff.1 hq).1).trans hq⟩
                obtain ⟨rfl, rfl⟩ := hs2
                (go_simp; refine hK _ _ ?_; clear hK K)
                refine flowU_step (fun v s => v = undef ∧ s = true) (by decide) rfl ⟨undef, true, rfl, rfl⟩ (fun w' hR => ?_) (fun _ _ _ _ _ => trivial) (fun K hK v s2 hs2 => ?_)
                focus
                  have hq := hR.now
                  simp only [Bool.false_eq_true, if_false] at hq
                  obtain ⟨q0, q1, q2, q3⟩ := cells4w hq
                  have qf : ∀ j, w'.frozen? ⟨wa.heap.size + 1, j, none⟩ = false := fun j => by simp [World.frozen?, hq]
                  have hfr := hR.fr
                  clear hR
                  go_simp
                  exact ⟨(((hfr.setCell (.inl rfl) _).setCell (.inl rfl) _).setCell (.inl rfl) _).setCell (.inl rfl) _, by simpa using store4 hq _ _ _ _⟩
                obtain ⟨rfl, rfl⟩ := hs2
                (go_simp; refine hK _ _ ?_; clear hK K)
                refine flowU_nil ?_
                intro w2 hR
                have hp2 := hR.now
                have hFw2 := hFwr.out.trans hR.fr
                clear hR hp eq1 g0 g1 g2 g7 g8 g9 g10
                simp only [if_true] at hp2
                have szw2 := hFw2.size
                have eq1 := hFw2.cell E1 (by omega) (by omega)
                have g0 := hFw2.cell G0 (by omega) (by omega)
                have g1 := hFw2.cell G1 (by omega) (by omega)
                have g2 := hFw2.cell G2 (by omega) (by omega)
                have g7 := hFw2.cell G7 (by omega) (by omega)
                have g8 := hFw2.cell G8 (by omega) (by omega)
                have g9 := hFw2.cell G9 (by omega) (by omega)
                have g10 := hFw2.cell G10 (by omega) (by omega)
                have hp := hp2
                clear hp2
                replace hFw2 := Lib.hid hFw2
                go_wp2
                go_roundw
                case rel => exact ⟨i + 1, by omega, by go_num, hFw2.out, by rw [hst]; exact hp⟩
                case measure => simp [intOf]; omega
            · have hq2 : (fr.toList == a.toList) = false := by rw [beqS]; exact decide_eq_false h2
              by_cases h3 : to' = a
              · subst h3
                obtain ⟨z, hz⟩ : ∃ z, z = addN x va := ⟨_, rfl⟩
                have cA : ∀ w, Calls Tryd.prog 76 #[W4 x, W4 va] w fun e w' => e = .returned (W4 z) ∧ Below w.heap.size w w' := fun w => by rw [hz]; exact ref_Add x va hx hva w
                simp only [h2, and_self, and_false, if_true, if_false, ← hz] at hst
                clear hz
                go_wp2
                refine wp_flowU (fun k => ([1, 1, 1, 1, 1, 1, 1, 1, 1, 2, 2] : List Nat).getD k 1) (stR wr (wa.heap.size + 1) (.cells #[.int .u64 (lb x 0 : Nat), .int .u64 (lb x 1 : Nat), .int .u64 (lb x 2 : Nat), .int .u64 (lb x 3 : Nat)] 25) (.cells #[.int .u64 (lb z 0 : Nat), .int .u64 (lb z 1 : Nat), .int .u64 (lb z 2 : Nat), .int .u64 (lb z 3 : Nat)] 25)) (fun _ => True) (false) (⟨Fr.drew (Fr.refl _ _), hp⟩) trivial (by kernel_rfl) (by kernel_rfl) ?_
                iterate 9 ((refine flowU_readE rfl rfl (fun K hK => ?_); apply Exists.intro; apply And.intro; (focus (intro w' hR; (try have hq := hR.now); (try simp only [Bool.false_eq_true, if_false] at hq); (try obtain ⟨p0, p1, p2, p3⟩ := cells4w hq); have y1 := hR.fr.cell eq1 (by omega) (by omega); have y7 := hR.fr.cell g7 (by omega) (by omega); have y8 := hR.fr.cell g8 (by omega) (by omega); have y9 := hR.fr.cell g9 (by omega) (by omega); have y10 := hR.fr.cell g10 (by omega) (by omega); clear hR; go_simp; (try go_bits); exact rfl)); go_simp; (try go_bits); refine hK _ ?_; clear hK K))
                refine flowU_step (fun v s => v = .agg #[.int .u64 (lb z 0 : Nat), .int .u64 (lb z 1 : Nat), .int .u64 (lb z 2 : Nat), .int .u64 (lb z 3 : Nat)] ∧ s = false) (by decide) rfl ⟨_, false, rfl, rfl⟩ (fun w' hR => ?_) (fun _ _ _ _ _ => trivial) (fun K hK v s2 hs2 => ?_)
                focus
                  have hq := hR.now
                  simp only [Bool.false_eq_true, if_false] at hq
                  have hfr := hR.fr
                  have cS := cA w'
                  clear hR
                  go_simp
                  refine cS.mono ?_
                  rintro e w2 ⟨rfl, hb⟩
                  exact ⟨_, rfl, rfl, hfr.trans ⟨hb.os, hb.tape, hb.output, hb.size, fun j hj hT => hb.block j hj⟩, by simp only [Bool.false_eq_true, if_false]; exact (hb.block _ (Array.getElem?_eq_some_iff.1 hq).1).trans hq⟩
                obtain ⟨rfl, rfl⟩ := hs2
                (go_simp; refine hK _ _ ?_; clear hK K)
                refine flowU_step (fun v s => v = undef ∧ s = true) (by decide) rfl ⟨undef, true, rfl, rfl⟩ (fun w' hR => ?_) (fun _ _ _ _ _ => trivial) (fun K hK v s2 hs2 => ?_)
                focus
                  have hq := hR.now
                  simp only [Bool.false_eq_true, if_false] at hq
                  obtain ⟨q0, q1, q2, q3⟩ := cells4w hq
                  have qf : ∀ j, w'.frozen? ⟨wa.heap.size + 1, j, none⟩ = false := fun j => by simp [World.frozen?, hq]
                  have hfr := hR.fr
                  clear hR
                  go_simp
                  exact ⟨(((hfr.setCell (.inl rfl) _).setCell (.inl rfl) _).setCell (.inl rfl) _).setCell (.inl rfl) _, by simpa using store4 hq _ _ _ _⟩
                obtain ⟨rfl, rfl⟩ := hs2
                (go_simp; refine hK _ _ ?_; clear hK K)
                refine flowU_nil ?_
                intro w2 hR
                have hp2 := hR.now
                have hFw2 := hFwr.out.trans hR.fr
                clear hR hp eq1 g0 g1 g2 g7 g8 g9 g10
                simp only [if_true] at hp2
                have szw2 := hFw2.size
                have eq1 := hFw2.cell E1 (by omega) (by omega)
                have g0 := hFw2.cell G0 (by omega) (by omega)
                have g1 := hFw2.cell G1 (by omega) (by omega)
                have g2 := hFw2.cell G2 (by omega) (by omega)
                have g7 := hFw2.cell G7 (by omega) (by omega)
                have g8 := hFw2.cell G8 (by omega) (by omega)
                have g9 := hFw2.cell G9 (by omega) (by omega)
                have g10 := hFw2.cell G10 (by omega) (by omega)
                have hp := hp2
                clear hp2
                replace hFw2 := Lib.hid hFw2
                go_wp2
                go_roundw
                case rel => exact ⟨i + 1, by omega, by go_num, hFw2.out, by rw [hst]; exact hp⟩
                case measure => simp [intOf]; omega
              · have hq3 : (to'.toList == a.toList) = false := by rw [beqS]; exact decide_eq_false h3
                simp only [h2, h3, and_false, if_false] at hst
                go_wp2
                go_roundw
                case rel => exact ⟨i + 1, by omega, by go_num, hFwr.out, by rw [hst]; exact hp⟩
                case measure => simp [intOf]; omega
          · have hq1 : (((ki : Nat) : Int) == 3) = false := by simp only [beq_eq_false_iff_ne, ne_eq]; omega
            simp only [h1, false_and, if_false] at hst
            go_wp2
            go_roundw
            case rel => exact ⟨i + 1, by omega, by go_num, hFwr.out, by rw [hst]; exact hp⟩
            case measure => simp [intOf]; omega
        · obtain rfl : i = R.length := by omega
          rw [Nat.sub_self, List.drop_zero] at hp
          obtain ⟨p0, p1, p2, p3⟩ := cells4w hp
          have eq1 := hFr.cell E1 (by omega) (by omega)
          have hB : Below W.heap.size W wr := b2.trans (hFr.toBelow (by omega) (fun k hk => by omega))
          have rb2 := (hFr.block _ (by omega) (by omega)).trans rb
          obtain ⟨q0, q1, q2, q3⟩ := cells4w rb2
          have qf : ∀ j, wr.frozen? ⟨W.heap.size, j, none⟩ = false := fun j => by simp [World.frozen?, rb2]
          clear hFr hp
          go_wp2
          refine bodyPost_ret (by simp only [results, Tryd.results62]; go_simp; try rfl) rfl ⟨rfl, ?_⟩
          exact (((hB.setCell (Nat.le_refl _) _).setCell (Nat.le_refl _) _).setCell (Nat.le_refl _) _).setCell (Nat.le_refl _) _
end
end Go.Proofs.YtcdjdnbdblpofaaDoor

/- The document's calls that note a change: Save, WarmCell, Move. Conditions: the blocks say what the state is. -/
namespace Go.Proofs.YtcdjdnbdblpofaaDoor
open Go.RowKit Go.Maps
attribute [local go_sem] leftBy leaves eqW guardW
set_option linter.unusedSimpArgs false
set_option linter.unusedVariables false

theorem RRep.keep {W w' : World} {G : Nat → Prop} {q : Nat} {lv : Value} {R : List Chg} {v : Value} {e : Ending} (h : RRep W G q lv R) (hb : e = .returned v ∧ Below W.heap.size W w') : mrPost W G q lv R v e w' :=
  ⟨hb.1, G, h.below hb.2, (Fr.refl G W).below hb.2, fun _ h => h, fun _ h => .inl h⟩

section
variable {W : World} {G : Nat → Prop} {q : Nat} {lv : Value} {L : List Kw} {R : List Chg}

set_option maxRecDepth 100000 in
set_option maxHeartbeats 16000000 in
theorem Save_Rok (h : RRep W G q lv R) (hk : knL W lv L) (hL : ∀ K ∈ L, Kok W K) (hR : R.length ≤ 1000000) (hok : ∀ c ∈ R, c.ok) (a : ByteArray) (k v : Nat) (hkk : k < Q256) (hlo : (loaN L R a k).2 = 0) :
    Calls Tryd.prog 44 #[ptr q, .string a, W4 k, W4 v] W (mrPost W G q lv (.save (a, k) v :: R) (.int .i64 0)) := by
  obtain ⟨ga, gc, hb, c0, c1, hrow, hown, hcap, hg, _⟩ := h.cells
  have hgl := h.glt
  have hgq := h.gq
  have hlt := (Array.getElem?_eq_some_iff.1 hb).1
  obtain ⟨j0, hj, hy0, hy1, hy2⟩ := info_parts infoC
  have bel : ∀ o1 o2, Below W.heap.size W ((W.alloc o1).alloc o2) := fun o1 o2 => ((Below.refl _ W).alloc (Nat.le_refl _) o1).alloc (by simp) o2
  have cL := fun o1 o2 => Load_R (h.below (bel o1 o2)) (hk.below (bel o1 o2)) (fun K hK => (hL K hK).below (bel o1 o2)) hR hok a k hkk
  rw [hlo] at cL
  generalize (loaN L R a k).1 = x at *
  clear hok hL hk hlo
  unfold ptr at *
  go_enter Tryd.func44, Tryd.ntmps44
  go_wp2_with (go_at_call 61; refine (cL _ _).mono ?_; rintro e wa ⟨rfl, hb_wa⟩; have hc_wa := (bcell hb_wa).1; have hf_wa := (bcell hb_wa).2; have hz_wa : _ ≤ wa.heap.size := hb_wa.size; (try simp only [World.size_alloc, World.heap_drewN, World.size_setCell, heap_drew] at hc_wa hf_wa hz_wa); have hz_wa_W_0 : W.heap.size < wa.heap.size := (by omega); have hz_wa_W_1 : W.heap.size + 1 < wa.heap.size := (by omega))
  have kv : (wa.alloc (.cells #[.int .u64 (lb x 0 : Nat), .int .u64 (lb x 1 : Nat), .int .u64 (lb x 2 : Nat), .int .u64 (lb x 3 : Nat)] 25)).heap[W.heap.size]? = _ := (Below.heap_alloc _ _ _ (by omega)).trans ((hb_wa.block _ (by simp only [World.size_alloc]; omega)).trans ((Below.heap_alloc _ _ _ (by simp)).trans (heap_new rfl)))
  have kv2 : (wa.alloc (.cells #[.int .u64 (lb x 0 : Nat), .int .u64 (lb x 1 : Nat), .int .u64 (lb x 2 : Nat), .int .u64 (lb x 3 : Nat)] 25)).heap[W.heap.size + 1]? = _ := (Below.heap_alloc _ _ _ (by omega)).trans ((hb_wa.block _ (by simp only [World.size_alloc]; omega)).trans (heap_new (by simp)))
  have b1 : Below W.heap.size W (wa.alloc (.cells #[.int .u64 (lb x 0 : Nat), .int .u64 (lb x 1 : Nat), .int .u64 (lb x 2 : Nat), .int .u64 (lb x 3 : Nat)] 25)) := ((bel _ _).trans (hb_wa.mono (bel _ _).size)).alloc (by omega) _
  have z1 : W.heap.size + 2 ≤ (wa.alloc (.cells #[.int .u64 (lb x 0 : Nat), .int .u64 (lb x 1 : Nat), .int .u64 (lb x 2 : Nat), .int .u64 (lb x 3 : Nat)] 25)).heap.size := by simp only [World.size_alloc]; omega
  clear hc_wa hf_wa hb_wa cL
  generalize (wa.alloc (.cells #[.int .u64 (lb x 0 : Nat), .int .u64 (lb x 1 : Nat), .int .u64 (lb x 2 : Nat), .int .u64 (lb x 3 : Nat)] 25)) = W1 at *
  have k1 := (b1.block _ hlt).trans hb
  have hrow1 : W1.ownsRow 0 94 14 (Value.slice ga R.length gc) R.length (chC R.reverse) := ownsRow_same hrow fun k hk => b1.block k (hgl k (hown k hk))
  obtain ⟨x0, x1, x2, x3⟩ := cells4w kv
  obtain ⟨y0, y1, y2, y3⟩ := cells4w kv2
  have hN0 : ¬ ((Value.slice ga R.length gc).ownBlock = some (W.heap.size) ∨ W.heap.size = q) := fun h => by
    rcases h with h | h
    · have := hgl _ (hown _ h)
      omega
    · omega
  have hN1 : ¬ ((Value.slice ga R.length gc).ownBlock = some (W.heap.size + 1) ∨ W.heap.size + 1 = q) := fun h => by
    rcases h with h | h
    · have := hgl _ (hown _ h)
      omega
    · omega
  clear c0 c1 hg
  refine wp_flowU (fun k => ([0, 0, 0, 0, 0, 1, 1, 1, 1, 2, 2, 1, 1, 4] : List Nat).getD k 1) (chR W1 q lv (Value.slice ga R.length gc) R.length (chC R.reverse) [.int .i64 1, .string a, .string ⟨#[]⟩, .int .u64 (lb k 0 : Nat), .int .u64 (lb k 1 : Nat), .int .u64 (lb k 2 : Nat), .int .u64 (lb k 3 : Nat), .int .u64 (lb v 0 : Nat), .int .u64 (lb v 1 : Nat), .int .u64 (lb v 2 : Nat), .int .u64 (lb v 3 : Nat), .string ⟨#[]⟩, .slice none 0 0, .string ⟨#[]⟩]) (fun s => s.st ≤ 2) (⟨0, 0, undef⟩) (⟨Fr.drew (Fr.refl _ _), k1, fun _ => hrow1, fun h => (by cases h), fun h => (by simp at h)⟩) (by decide) (by kernel_rfl) (by kernel_rfl) ?_
  iterate 5 ((refine flowU_lateE rfl rfl (fun K hK => ?_); apply Exists.intro; apply And.intro; (focus (intro s0 w' hC hR; have hq := hR.st; rw [if_pos (by first | exact hC | simp)] at hq; have e1 : w'.cell? ⟨q, 1, none⟩ = some (Value.slice ga R.length gc) := (by simp [World.cell?, hq]); have p0 := hR.fr.cell x0 hN0 (by omega); have q0 := hR.fr.cell y0 hN1 (by omega); have p1 := hR.fr.cell x1 hN0 (by omega); have q1 := hR.fr.cell y1 hN1 (by omega); have p2 := hR.fr.cell x2 hN0 (by omega); have q2 := hR.fr.cell y2 hN1 (by omega); have p3 := hR.fr.cell x3 hN0 (by omega); have q3 := hR.fr.cell y3 hN1 (by omega); clear hq hR; go_simp; (try go_bits); exact rfl)); go_simp; (try go_bits); refine hK _ ?_; clear hK K))
  iterate 4 ((refine flowU_readE rfl rfl (fun K hK => ?_); apply Exists.intro; apply And.intro; (focus (intro w' hR; have hq := hR.st; rw [if_pos (by first | exact hC | simp)] at hq; have e1 : w'.cell? ⟨q, 1, none⟩ = some (Value.slice ga R.length gc) := (by simp [World.cell?, hq]); have p0 := hR.fr.cell x0 hN0 (by omega); have q0 := hR.fr.cell y0 hN1 (by omega); have p1 := hR.fr.cell x1 hN0 (by omega); have q1 := hR.fr.cell y1 hN1 (by omega); have p2 := hR.fr.cell x2 hN0 (by omega); have q2 := hR.fr.cell y2 hN1 (by omega); have p3 := hR.fr.cell x3 hN0 (by omega); have q3 := hR.fr.cell y3 hN1 (by omega); clear hq hR; go_simp; (try go_bits); exact rfl)); go_simp; (try go_bits); refine hK _ ?_; clear hK K))
  refine flowU_step puPB (by decide) rfl ⟨.slice (some ⟨0, 0, none⟩) 1 1, _, 0, rfl, rfl⟩ (fun w' hR => ?_) (fun _ _ v s2 h => (by obtain ⟨g, _, rfl⟩ := h; exact (by decide : (1 : Nat) ≤ 2))) (fun K hK v s2 hs2 => ?_)
  focus
    have hst' := hR.st
    have hlt' := (Array.getElem?_eq_some_iff.1 hst').1
    have hfr := hR.fr
    have hro := hR.row (Nat.zero_le _)
    clear hR
    go_simp
    exact ⟨⟨1, w'.heap.size, undef⟩, ⟨_, rfl, rfl⟩, hfr.alloc _, (Below.heap_alloc _ _ _ hlt').trans hst', fun _ => hro.alloc _, fun _ => ⟨hfr.size, heap_new rfl⟩, fun h => (by simp at h)⟩
  obtain ⟨g, rfl, rfl⟩ := hs2
  (go_simp; refine hK _ _ ?_; clear hK K)
  refine flowU_step (puPA (R.length + 1) g) (by decide) rfl ⟨_, _, 0, 0, rfl, rfl⟩ (fun w' hR => ?_) (fun _ _ v s2 h => (by obtain ⟨_, _, _, rfl⟩ := h; exact (by decide : (2 : Nat) ≤ 2))) (fun K hK v s2 hs2 => ?_)
  focus
    have hst' := hR.st
    have hlt' := (Array.getElem?_eq_some_iff.1 hst').1
    obtain ⟨hg1, hg2⟩ := hR.one rfl
    have hro := hR.row (Nat.le_refl _)
    have hfr := hR.fr
    clear hR
    obtain ⟨v', w2, hr, hown', hgrow, _, hloc⟩ := run_append_own_at (P := Tryd.prog) w' 0 89 89 94 j0 _ 14 160 Tryd.underlying89 hj hy0 hy1 hy2 rfl (by decide) (Value.slice ga R.length gc) R.length (chC R.reverse) hro ⟨g, 0, none⟩ 1 1 [.int .i64 1, .string a, .string ⟨#[]⟩, .int .u64 (lb k 0 : Nat), .int .u64 (lb k 1 : Nat), .int .u64 (lb k 2 : Nat), .int .u64 (lb k 3 : Nat), .int .u64 (lb v 0 : Nat), .int .u64 (lb v 1 : Nat), .int .u64 (lb v 2 : Nat), .int .u64 (lb v 3 : Nat), .string ⟨#[]⟩, .slice none 0 0, .string ⟨#[]⟩] rfl
      (fun j u hj => by
        have hg3 : w'.heap[g]? = _ := hg2
        rw [World.cell?_of_block (w := w') (w' := w') rfl]
        have hj3 : j < 14 := (List.getElem?_eq_some_iff.1 hj).1
        exact one_cells hg3 rfl hj) (by simp [Value.oneCell']) (by unfold maxLen; omega) (by omega) (Nat.zero_le _)
    rw [append_exec (P := Tryd.prog) rfl rfl rfl hr]
    have hne : (Value.slice ga R.length gc).ownBlock ≠ some q := fun e => by
      obtain ⟨cs, h3⟩ := row_block hro e
      rw [h3] at hst'
      injection hst' with h6
      injection h6 with _ h6
      exact absurd h6 (by decide)
    obtain ⟨ql, cap, rfl⟩ : ∃ ql cap, v' = .slice (some ⟨ql, 0, none⟩) (R.length + 1) cap := by
      rcases hown'.2 with ⟨_, h0⟩ | ⟨ql, cap, cur, h0, _⟩
      · simp at h0
      · exact ⟨ql, cap, h0⟩
    refine ⟨⟨2, g, _⟩, ⟨ql, cap, rfl, rfl⟩, hfr.trans ⟨hgrow.os, hgrow.tape, hgrow.output, hgrow.size, fun k hk hT => hgrow.block k hk fun e => hT (.inl e.symm)⟩, (hgrow.block _ hlt' (fun e => hne e.symm)).trans hst', fun h => (by simp at h), fun h => (by cases h), fun _ => ⟨hown', ?_⟩⟩
    rcases hloc with h | h
    · exact .inl h
    · exact .inr ⟨_, h, hfr.size⟩
  obtain ⟨ql, capl, rfl, rfl⟩ := hs2
  (go_simp; refine hK _ _ ?_; clear hK K)
  iterate 2 ((refine flowU_readE rfl rfl (fun K hK => ?_); apply Exists.intro; apply And.intro; (focus (intro w' hR; have hq := hR.st; rw [if_pos (by first | exact hC | simp)] at hq; have e1 : w'.cell? ⟨q, 1, none⟩ = some (Value.slice ga R.length gc) := (by simp [World.cell?, hq]); have p0 := hR.fr.cell x0 hN0 (by omega); have q0 := hR.fr.cell y0 hN1 (by omega); have p1 := hR.fr.cell x1 hN0 (by omega); have q1 := hR.fr.cell y1 hN1 (by omega); have p2 := hR.fr.cell x2 hN0 (by omega); have q2 := hR.fr.cell y2 hN1 (by omega); have p3 := hR.fr.cell x3 hN0 (by omega); have q3 := hR.fr.cell y3 hN1 (by omega); clear hq hR; go_simp; (try go_bits); exact rfl)); go_simp; (try go_bits); refine hK _ ?_; clear hK K))
  refine flowU_step (puPC g (Value.slice (some ⟨ql, 0, none⟩) (R.length + 1) capl)) (by decide) rfl ⟨undef, _, rfl, rfl⟩ (fun w' hR => ?_) (fun h => absurd rfl h) (fun K hK v s2 hs2 => ?_)
  focus
    have hst' := hR.st
    rw [if_pos (by simp)] at hst'
    have hlt' := (Array.getElem?_eq_some_iff.1 hst').1
    have f1 : w'.frozen? ⟨q, 1, none⟩ = false := by simp [World.frozen?, hst']
    have d1 : w'.cell? ⟨q, 1, none⟩ = some (Value.slice ga R.length gc) := by simp [World.cell?, hst']
    obtain ⟨n1, n2⟩ := hR.new (Nat.le_refl _)
    have hfr := hR.fr
    clear hR
    dsimp only at n1 n2
    have hne : (Value.slice (some ⟨ql, 0, none⟩) (R.length + 1) capl).ownBlock ≠ some q := fun e => by
      obtain ⟨cs, h3⟩ := row_block n1 e
      rw [h3] at hst'
      injection hst' with h6
      injection h6 with _ h6
      exact absurd h6 (by decide)
    go_simp
    exact ⟨⟨3, g, Value.slice (some ⟨ql, 0, none⟩) (R.length + 1) capl⟩, ⟨rfl, rfl⟩, hfr.setCell (.inl (.inr rfl)) _, st_set1 hst' _, fun h => (by simp at h), fun h => (by simp at h), fun _ => ⟨ownsRow_same n1 fun k hk => heap_set_ne (fun e => hne (e ▸ hk)), n2⟩⟩
  obtain ⟨rfl, rfl⟩ := hs2
  (go_simp; refine hK _ _ ?_; clear hK K)
  refine flowU_nil ?_
  intro w3 hR3
  have fin := chR.done (c := .save (a, k) v) hgl hgq hown b1 (by simp only [Chg.c, chV, Chg.ki, Chg.fr, Chg.to, Chg.ke, Chg.va, Chg.lo, Lg.nil, lb_nil]; rfl) hR3 (by rfl)
  clear hR3
  go_wp2
  go_ret
  exact ⟨rfl, fin⟩

set_option maxRecDepth 100000 in
set_option maxHeartbeats 16000000 in
theorem Save_Rno (h : RRep W G q lv R) (hk : knL W lv L) (hL : ∀ K ∈ L, Kok W K) (hR : R.length ≤ 1000000) (hok : ∀ c ∈ R, c.ok) (a : ByteArray) (k v : Nat) (hkk : k < Q256) (hlo : (loaN L R a k).2 = 190) :
    Calls Tryd.prog 44 #[ptr q, .string a, W4 k, W4 v] W (mrPost W G q lv (R) (.int .i64 190)) := by
  obtain ⟨ga, gc, hb, c0, c1, hrow, hown, hcap, hg, _⟩ := h.cells
  have hgl := h.glt
  have hgq := h.gq
  have hlt := (Array.getElem?_eq_some_iff.1 hb).1
  obtain ⟨j0, hj, hy0, hy1, hy2⟩ := info_parts infoC
  have bel : ∀ o1 o2, Below W.heap.size W ((W.alloc o1).alloc o2) := fun o1 o2 => ((Below.refl _ W).alloc (Nat.le_refl _) o1).alloc (by simp) o2
  have cL := fun o1 o2 => Load_R (h.below (bel o1 o2)) (hk.below (bel o1 o2)) (fun K hK => (hL K hK).below (bel o1 o2)) hR hok a k hkk
  rw [hlo] at cL
  generalize (loaN L R a k).1 = x at *
  clear hok hL hk hlo
  unfold ptr at *
  go_enter Tryd.func44, Tryd.ntmps44
  go_wp2_with (go_at_call 61; refine (cL _ _).mono ?_; rintro e wa ⟨rfl, hb_wa⟩; have hc_wa := (bcell hb_wa).1; have hf_wa := (bcell hb_wa).2; have hz_wa : _ ≤ wa.heap.size := hb_wa.size; (try simp only [World.size_alloc, World.heap_drewN, World.size_setCell, heap_drew] at hc_wa hf_wa hz_wa); have hz_wa_W_0 : W.heap.size < wa.heap.size := (by omega); have hz_wa_W_1 : W.heap.size + 1 < wa.heap.size := (by omega))
  go_ret
  exact h.keep ⟨rfl, ((bel _ _).trans (hb_wa.mono (bel _ _).size)).alloc (by omega) _⟩

set_option maxRecDepth 100000 in
set_option maxHeartbeats 16000000 in
theorem Warm_Rold (h : RRep W G q lv R) (hR : R.length ≤ 1000000) (hok : ∀ c ∈ R, c.ok) (a : ByteArray) (hw : wmF R a = true) :
    Calls Tryd.prog 47 #[ptr q, .string a] W (mrPost W G q lv R (.bool true)) := by
  have cL := last_R h hR hok 4 (by decide) a 0 Q256_pos
  have hi := laF_4 R a
  rw [hi, hw] at cL
  generalize (laF 4 R (a, 0)).getD 0 = x at *
  rw [W4_zero] at cL
  unfold ptr at *
  go_enter Tryd.func47, Tryd.ntmps47
  go_wp2_with (go_at_call 64; refine cL.mono ?_; rintro e wa ⟨rfl, hb_wa⟩; have hc_wa := (bcell hb_wa).1; have hf_wa := (bcell hb_wa).2; have hz_wa : _ ≤ wa.heap.size := hb_wa.size; (try simp only [World.size_alloc, World.heap_drewN, World.size_setCell, heap_drew] at hc_wa hf_wa hz_wa))
  go_ret
  exact h.keep ⟨rfl, hb_wa.alloc hz_wa _⟩

set_option maxRecDepth 100000 in
set_option maxHeartbeats 16000000 in
theorem Warm_Rnew (h : RRep W G q lv R) (hR : R.length ≤ 1000000) (hok : ∀ c ∈ R, c.ok) (a : ByteArray) (hw : wmF R a = false) :
    Calls Tryd.prog 47 #[ptr q, .string a] W (mrPost W G q lv (.warm a :: R) (.bool false)) := by
  obtain ⟨ga, gc, hb, c0, c1, hrow, hown, hcap, hg, _⟩ := h.cells
  have hgl := h.glt
  have hgq := h.gq
  have hlt := (Array.getElem?_eq_some_iff.1 hb).1
  obtain ⟨j0, hj, hy0, hy1, hy2⟩ := info_parts infoC
  have cL := last_R h hR hok 4 (by decide) a 0 Q256_pos
  have hi := laF_4 R a
  rw [hi, hw] at cL
  generalize (laF 4 R (a, 0)).getD 0 = x at *
  rw [W4_zero] at cL
  clear hok hi hw
  unfold ptr at *
  go_enter Tryd.func47, Tryd.ntmps47
  go_wp2_with (first | (go_at_call 64; refine cL.mono ?_; rintro e wa ⟨rfl, hb_wa⟩; have hc_wa := (bcell hb_wa).1; have hf_wa := (bcell hb_wa).2; have hz_wa : _ ≤ wa.heap.size := hb_wa.size; (try simp only [World.size_alloc, World.heap_drewN, World.size_setCell, heap_drew] at hc_wa hf_wa hz_wa); have hcw := (World.cell?_of_block (a := ⟨q, 1, none⟩) (hb_wa.block q hlt)).trans c1; have hltw : q < wa.heap.size := (by omega)) | (at_builtin; (refine wpList_append_own_at _ rfl _ _ 89 rfl 0 94 j0 _ 14 160 Tryd.underlying89 hj hy0 hy1 hy2 rfl (by decide) _ _ _ rfl (((ownsRow_same hrow fun k hk => hb_wa.block k (hgl k (hown k hk))).alloc _).alloc _) ⟨wa.heap.size + 1, 0, none⟩ 1 1 [.int .i64 4, .string a, .string ⟨#[]⟩, .int .u64 0, .int .u64 0, .int .u64 0, .int .u64 0, .int .u64 0, .int .u64 0, .int .u64 0, .int .u64 0, .string ⟨#[]⟩, .slice none 0 0, .string ⟨#[]⟩] rfl rfl ?c1 ?c2 ?c3 ?c4 ?c5 ?_)))
  case c1 =>
    intro k u hk
    exact one_cells (heap_new (by simp)) rfl hk
  case c2 => simp [Value.oneCell']
  case c3 => unfold maxLen; omega
  case c4 => omega
  case c5 => exact Nat.zero_le _
  intro v' w1 hown1 hgr1 _ hloc
  obtain ⟨ql, capl, rfl⟩ : ∃ ql cap, v' = .slice (some ⟨ql, 0, none⟩) (R.length + 1) cap := by
    rcases hown1.2 with ⟨_, h0⟩ | ⟨ql, cap, cur, h0, _⟩
    · simp at h0
    · exact ⟨ql, cap, h0⟩
  have bw : Below W.heap.size W ((wa.alloc (.cells #[.int .u64 (lb x 0 : Nat), .int .u64 (lb x 1 : Nat), .int .u64 (lb x 2 : Nat), .int .u64 (lb x 3 : Nat)] 25)).alloc (.cells #[.int .i64 4, .string a, .string ⟨#[]⟩, .int .u64 0, .int .u64 0, .int .u64 0, .int .u64 0, .int .u64 0, .int .u64 0, .int .u64 0, .int .u64 0, .string ⟨#[]⟩, .slice none 0 0, .string ⟨#[]⟩] 94)) := (hb_wa.alloc hz_wa _).alloc (by simp; omega) _
  have hne : (Value.slice ga R.length gc).ownBlock ≠ some q := fun e => by
    obtain ⟨cs, h3⟩ := row_block hrow e
    rw [h3] at hb
    injection hb with h6
    injection h6 with _ h6
    exact absurd h6 (by decide)
  have k1 : w1.heap[q]? = some (.cells #[lv, Value.slice ga R.length gc] 91 (0, 0)) := (hgr1.block q (by simp; omega) (fun e => hne e.symm)).trans ((bw.block q hlt).trans hb)
  have f1 : w1.frozen? ⟨q, 1, none⟩ = false := by simp [World.frozen?, k1]
  have d1 : w1.cell? ⟨q, 1, none⟩ = some (Value.slice ga R.length gc) := by simp [World.cell?, k1]
  have hne1 : (Value.slice (some ⟨ql, 0, none⟩) (R.length + 1) capl).ownBlock ≠ some q := fun e => by
    obtain ⟨cs, h3⟩ := row_block hown1 e
    rw [h3] at k1
    injection k1 with h6
    injection h6 with _ h6
    exact absurd h6 (by decide)
  have hch : chR ((wa.alloc (.cells #[.int .u64 (lb x 0 : Nat), .int .u64 (lb x 1 : Nat), .int .u64 (lb x 2 : Nat), .int .u64 (lb x 3 : Nat)] 25)).alloc (.cells #[.int .i64 4, .string a, .string ⟨#[]⟩, .int .u64 0, .int .u64 0, .int .u64 0, .int .u64 0, .int .u64 0, .int .u64 0, .int .u64 0, .int .u64 0, .string ⟨#[]⟩, .slice none 0 0, .string ⟨#[]⟩] 94)) q lv (Value.slice ga R.length gc) R.length (chC R.reverse) [.int .i64 4, .string a, .string ⟨#[]⟩, .int .u64 0, .int .u64 0, .int .u64 0, .int .u64 0, .int .u64 0, .int .u64 0, .int .u64 0, .int .u64 0, .string ⟨#[]⟩, .slice none 0 0, .string ⟨#[]⟩] ⟨3, 0, Value.slice (some ⟨ql, 0, none⟩) (R.length + 1) capl⟩ (w1.setCell ⟨q, 1, none⟩ (Value.slice (some ⟨ql, 0, none⟩) (R.length + 1) capl)) :=
    ⟨Fr.setCell ⟨hgr1.os, hgr1.tape, hgr1.output, hgr1.size, fun k hk hT => hgr1.block k hk fun e => hT (.inl e.symm)⟩ (.inl (.inr rfl)) _, st_set1 k1 _, fun h => (by simp at h), fun h => (by simp at h), fun _ => ⟨ownsRow_same hown1 fun k hk => heap_set_ne (fun e => hne1 (e ▸ hk)), by
      rcases hloc with h | h
      · exact .inl h
      · exact .inr ⟨_, h, by simp⟩⟩⟩
  have fin := chR.done (c := .warm a) hgl hgq hown bw (by simp only [Chg.c, chV, Chg.ki, Chg.fr, Chg.to, Chg.ke, Chg.va, Chg.lo, Lg.nil, lb_nil]; rfl) hch (by rfl)
  clear hch hown1 hgr1 bw
  go_wp2
  go_ret
  exact ⟨rfl, fin⟩

set_option maxRecDepth 100000 in
set_option maxHeartbeats 16000000 in
theorem WarmCell_Rnew (h : RRep W G q lv R) (hR : R.length ≤ 1000000) (hok : ∀ c ∈ R, c.ok) (a : ByteArray) (k : Nat) (hkk : k < Q256) (hw : ceF R (a, k) = false) :
    Calls Tryd.prog 48 #[ptr q, .string a, W4 k] W (mrPost W G q lv (.cell (a, k) :: R) (.bool false)) := by
  obtain ⟨ga, gc, hb, c0, c1, hrow, hown, hcap, hg, _⟩ := h.cells
  have hgl := h.glt
  have hgq := h.gq
  have hlt := (Array.getElem?_eq_some_iff.1 hb).1
  obtain ⟨j0, hj, hy0, hy1, hy2⟩ := info_parts infoC
  have bel : ∀ o1, Below W.heap.size W (W.alloc o1) := fun o1 => (Below.refl _ W).alloc (Nat.le_refl _) o1
  have cL := fun o1 => last_R (h.below (bel o1)) hR hok 5 (by decide) a k hkk
  have hi := laF_5 R (a, k)
  rw [hi, hw] at cL
  generalize (laF 5 R (a, k)).getD 0 = x at *
  clear hok hi hw
  unfold ptr at *
  go_enter Tryd.func48, Tryd.ntmps48
  go_wp2_with (go_at_call 64; refine (cL _).mono ?_; rintro e wa ⟨rfl, hb_wa⟩; have hc_wa := (bcell hb_wa).1; have hf_wa := (bcell hb_wa).2; have hz_wa : _ ≤ wa.heap.size := hb_wa.size; (try simp only [World.size_alloc, World.heap_drewN, World.size_setCell, heap_drew] at hc_wa hf_wa hz_wa); have hz_wa_W_0 : W.heap.size < wa.heap.size := (by omega))
  have kv : (wa.alloc (.cells #[.int .u64 (lb x 0 : Nat), .int .u64 (lb x 1 : Nat), .int .u64 (lb x 2 : Nat), .int .u64 (lb x 3 : Nat)] 25)).heap[W.heap.size]? = _ := (Below.heap_alloc _ _ _ (by omega)).trans ((hb_wa.block _ (by simp only [World.size_alloc]; omega)).trans (heap_new rfl))
  have b1 : Below W.heap.size W (wa.alloc (.cells #[.int .u64 (lb x 0 : Nat), .int .u64 (lb x 1 : Nat), .int .u64 (lb x 2 : Nat), .int .u64 (lb x 3 : Nat)] 25)) := ((bel _).trans (hb_wa.mono (bel _).size)).alloc (by omega) _
  have z1 : W.heap.size + 1 ≤ (wa.alloc (.cells #[.int .u64 (lb x 0 : Nat), .int .u64 (lb x 1 : Nat), .int .u64 (lb x 2 : Nat), .int .u64 (lb x 3 : Nat)] 25)).heap.size := by simp only [World.size_alloc]; omega
  clear hc_wa hf_wa hb_wa cL
  generalize (wa.alloc (.cells #[.int .u64 (lb x 0 : Nat), .int .u64 (lb x 1 : Nat), .int .u64 (lb x 2 : Nat), .int .u64 (lb x 3 : Nat)] 25)) = W1 at *
  have k1 := (b1.block _ hlt).trans hb
  have hrow1 : W1.ownsRow 0 94 14 (Value.slice ga R.length gc) R.length (chC R.reverse) := ownsRow_same hrow fun k hk => b1.block k (hgl k (hown k hk))
  obtain ⟨x0, x1, x2, x3⟩ := cells4w kv
  have hN0 : ¬ ((Value.slice ga R.length gc).ownBlock = some (W.heap.size) ∨ W.heap.size = q) := fun h => by
    rcases h with h | h
    · have := hgl _ (hown _ h)
      omega
    · omega
  clear c0 c1 hg
  refine wp_flowU (fun k => ([0, 0, 0, 0, 0, 1, 1, 1, 2, 2, 1, 1, 4] : List Nat).getD k 1) (chR W1 q lv (Value.slice ga R.length gc) R.length (chC R.reverse) [.int .i64 5, .string a, .string ⟨#[]⟩, .int .u64 (lb k 0 : Nat), .int .u64 (lb k 1 : Nat), .int .u64 (lb k 2 : Nat), .int .u64 (lb k 3 : Nat), .int .u64 0, .int .u64 0, .int .u64 0, .int .u64 0, .string ⟨#[]⟩, .slice none 0 0, .string ⟨#[]⟩]) (fun s => s.st ≤ 2) (⟨0, 0, undef⟩) (⟨Fr.drew (Fr.refl _ _), k1, fun _ => hrow1, fun h => (by cases h), fun h => (by simp at h)⟩) (by decide) (by kernel_rfl) (by kernel_rfl) ?_
  iterate 5 ((refine flowU_lateE rfl rfl (fun K hK => ?_); apply Exists.intro; apply And.intro; (focus (intro s0 w' hC hR; have hq := hR.st; rw [if_pos (by first | exact hC | simp)] at hq; have e1 : w'.cell? ⟨q, 1, none⟩ = some (Value.slice ga R.length gc) := (by simp [World.cell?, hq]); have p0 := hR.fr.cell x0 hN0 (by omega); have p1 := hR.fr.cell x1 hN0 (by omega); have p2 := hR.fr.cell x2 hN0 (by omega); have p3 := hR.fr.cell x3 hN0 (by omega); clear hq hR; go_simp; (try go_bits); exact rfl)); go_simp; (try go_bits); refine hK _ ?_; clear hK K))
  iterate 3 ((refine flowU_readE rfl rfl (fun K hK => ?_); apply Exists.intro; apply And.intro; (focus (intro w' hR; have hq := hR.st; rw [if_pos (by first | exact hC | simp)] at hq; have e1 : w'.cell? ⟨q, 1, none⟩ = some (Value.slice ga R.length gc) := (by simp [World.cell?, hq]); have p0 := hR.fr.cell x0 hN0 (by omega); have p1 := hR.fr.cell x1 hN0 (by omega); have p2 := hR.fr.cell x2 hN0 (by omega); have p3 := hR.fr.cell x3 hN0 (by omega); clear hq hR; go_simp; (try go_bits); exact rfl)); go_simp; (try go_bits); refine hK _ ?_; clear hK K))
  refine flowU_step puPB (by decide) rfl ⟨.slice (some ⟨0, 0, none⟩) 1 1, _, 0, rfl, rfl⟩ (fun w' hR => ?_) (fun _ _ v s2 h => (by obtain ⟨g, _, rfl⟩ := h; exact (by decide : (1 : Nat) ≤ 2))) (fun K hK v s2 hs2 => ?_)
  focus
    have hst' := hR.st
    have hlt' := (Array.getElem?_eq_some_iff.1 hst').1
    have hfr := hR.fr
    have hro := hR.row (Nat.zero_le _)
    clear hR
    go_simp
    exact ⟨⟨1, w'.heap.size, undef⟩, ⟨_, rfl, rfl⟩, hfr.alloc _, (Below.heap_alloc _ _ _ hlt').trans hst', fun _ => hro.alloc _, fun _ => ⟨hfr.size, heap_new rfl⟩, fun h => (by simp at h)⟩
  obtain ⟨g, rfl, rfl⟩ := hs2
  (go_simp; refine hK _ _ ?_; clear hK K)
  refine flowU_step (puPA (R.length + 1) g) (by decide) rfl ⟨_, _, 0, 0, rfl, rfl⟩ (fun w' hR => ?_) (fun _ _ v s2 h => (by obtain ⟨_, _, _, rfl⟩ := h; exact (by decide : (2 : Nat) ≤ 2))) (fun K hK v s2 hs2 => ?_)
  focus
    have hst' := hR.st
    have hlt' := (Array.getElem?_eq_some_iff.1 hst').1
    obtain ⟨hg1, hg2⟩ := hR.one rfl
    have hro := hR.row (Nat.le_refl _)
    have hfr := hR.fr
    clear hR
    obtain ⟨v', w2, hr, hown', hgrow, _, hloc⟩ := run_append_own_at (P := Tryd.prog) w' 0 89 89 94 j0 _ 14 160 Tryd.underlying89 hj hy0 hy1 hy2 rfl (by decide) (Value.slice ga R.length gc) R.length (chC R.reverse) hro ⟨g, 0, none⟩ 1 1 [.int .i64 5, .string a, .string ⟨#[]⟩, .int .u64 (lb k 0 : Nat), .int .u64 (lb k 1 : Nat), .int .u64 (lb k 2 : Nat), .int .u64 (lb k 3 : Nat), .int .u64 0, .int .u64 0, .int .u64 0, .int .u64 0, .string ⟨#[]⟩, .slice none 0 0, .string ⟨#[]⟩] rfl
      (fun j u hj => by
        have hg3 : w'.heap[g]? = _ := hg2
        rw [World.cell?_of_block (w := w') (w' := w') rfl]
        have hj3 : j < 14 := (List.getElem?_eq_some_iff.1 hj).1
        exact one_cells hg3 rfl hj) (by simp [Value.oneCell']) (by unfold maxLen; omega) (by omega) (Nat.zero_le _)
    rw [append_exec (P := Tryd.prog) rfl rfl rfl hr]
    have hne : (Value.slice ga R.length gc).ownBlock ≠ some q := fun e => by
      obtain ⟨cs, h3⟩ := row_block hro e
      rw [h3] at hst'
      injection hst' with h6
      injection h6 with _ h6
      exact absurd h6 (by decide)
    obtain ⟨ql, cap, rfl⟩ : ∃ ql cap, v' = .slice (some ⟨ql, 0, none⟩) (R.length + 1) cap := by
      rcases hown'.2 with ⟨_, h0⟩ | ⟨ql, cap, cur, h0, _⟩
      · simp at h0
      · exact ⟨ql, cap, h0⟩
    refine ⟨⟨2, g, _⟩, ⟨ql, cap, rfl, rfl⟩, hfr.trans ⟨hgrow.os, hgrow.tape, hgrow.output, hgrow.size, fun k hk hT => hgrow.block k hk fun e => hT (.inl e.symm)⟩, (hgrow.block _ hlt' (fun e => hne e.symm)).trans hst', fun h => (by simp at h), fun h => (by cases h), fun _ => ⟨hown', ?_⟩⟩
    rcases hloc with h | h
    · exact .inl h
    · exact .inr ⟨_, h, hfr.size⟩
  obtain ⟨ql, capl, rfl, rfl⟩ := hs2
  (go_simp; refine hK _ _ ?_; clear hK K)
  iterate 2 ((refine flowU_readE rfl rfl (fun K hK => ?_); apply Exists.intro; apply And.intro; (focus (intro w' hR; have hq := hR.st; rw [if_pos (by first | exact hC | simp)] at hq; have e1 : w'.cell? ⟨q, 1, none⟩ = some (Value.slice ga R.length gc) := (by simp [World.cell?, hq]); have p0 := hR.fr.cell x0 hN0 (by omega); have p1 := hR.fr.cell x1 hN0 (by omega); have p2 := hR.fr.cell x2 hN0 (by omega); have p3 := hR.fr.cell x3 hN0 (by omega); clear hq hR; go_simp; (try go_bits); exact rfl)); go_simp; (try go_bits); refine hK _ ?_; clear hK K))
  refine flowU_step (puPC g (Value.slice (some ⟨ql, 0, none⟩) (R.length + 1) capl)) (by decide) rfl ⟨undef, _, rfl, rfl⟩ (fun w' hR => ?_) (fun h => absurd rfl h) (fun K hK v s2 hs2 => ?_)
  focus
    have hst' := hR.st
    rw [if_pos (by simp)] at hst'
    have hlt' := (Array.getElem?_eq_some_iff.1 hst').1
    have f1 : w'.frozen? ⟨q, 1, none⟩ = false := by simp [World.frozen?, hst']
    have d1 : w'.cell? ⟨q, 1, none⟩ = some (Value.slice ga R.length gc) := by simp [World.cell?, hst']
    obtain ⟨n1, n2⟩ := hR.new (Nat.le_refl _)
    have hfr := hR.fr
    clear hR
    dsimp only at n1 n2
    have hne : (Value.slice (some ⟨ql, 0, none⟩) (R.length + 1) capl).ownBlock ≠ some q := fun e => by
      obtain ⟨cs, h3⟩ := row_block n1 e
      rw [h3] at hst'
      injection hst' with h6
      injection h6 with _ h6
      exact absurd h6 (by decide)
    go_simp
    exact ⟨⟨3, g, Value.slice (some ⟨ql, 0, none⟩) (R.length + 1) capl⟩, ⟨rfl, rfl⟩, hfr.setCell (.inl (.inr rfl)) _, st_set1 hst' _, fun h => (by simp at h), fun h => (by simp at h), fun _ => ⟨ownsRow_same n1 fun k hk => heap_set_ne (fun e => hne (e ▸ hk)), n2⟩⟩
  obtain ⟨rfl, rfl⟩ := hs2
  (go_simp; refine hK _ _ ?_; clear hK K)
  refine flowU_nil ?_
  intro w3 hR3
  have fin := chR.done (c := .cell (a, k)) hgl hgq hown b1 (by simp only [Chg.c, chV, Chg.ki, Chg.fr, Chg.to, Chg.ke, Chg.va, Chg.lo, Lg.nil, lb_nil]; rfl) hR3 (by rfl)
  clear hR3
  go_wp2
  go_ret
  exact ⟨rfl, fin⟩

set_option maxRecDepth 100000 in
set_option maxHeartbeats 16000000 in
theorem WarmCell_Rold (h : RRep W G q lv R) (hR : R.length ≤ 1000000) (hok : ∀ c ∈ R, c.ok) (a : ByteArray) (k : Nat) (hkk : k < Q256) (hw : ceF R (a, k) = true) :
    Calls Tryd.prog 48 #[ptr q, .string a, W4 k] W (mrPost W G q lv (R) (.bool true)) := by
  have bel : ∀ o1, Below W.heap.size W (W.alloc o1) := fun o1 => (Below.refl _ W).alloc (Nat.le_refl _) o1
  have cL := fun o1 => last_R (h.below (bel o1)) hR hok 5 (by decide) a k hkk
  have hi := laF_5 R (a, k)
  rw [hi, hw] at cL
  generalize (laF 5 R (a, k)).getD 0 = x at *
  clear hok hi hw
  unfold ptr at *
  go_enter Tryd.func48, Tryd.ntmps48
  go_wp2_with (go_at_call 64; refine (cL _).mono ?_; rintro e wa ⟨rfl, hb_wa⟩; have hc_wa := (bcell hb_wa).1; have hf_wa := (bcell hb_wa).2; have hz_wa : _ ≤ wa.heap.size := hb_wa.size; (try simp only [World.size_alloc, World.heap_drewN, World.size_setCell, heap_drew] at hc_wa hf_wa hz_wa); have hz_wa_W_0 : W.heap.size < wa.heap.size := (by omega))
  go_ret
  exact h.keep ⟨rfl, ((bel _).trans (hb_wa.mono (bel _).size)).alloc (by omega) _⟩

set_option maxRecDepth 100000 in
set_option maxHeartbeats 16000000 in
theorem Move_Rno (h : RRep W G q lv R) (hk : knL W lv L) (hR : R.length ≤ 1000000) (hok : ∀ c ∈ R, c.ok) (hL : ∀ K ∈ L, K.ba < Q256) (f t : ByteArray) (n : Nat) (hn : n < Q256) (hK : kfind L f = none ∨ kfind L t = none) :
    Calls Tryd.prog 46 #[ptr q, .string f, .string t, W4 n] W (mrPost W G q lv (R) (.int .i64 190)) := by
  have bel : ∀ o1, Below W.heap.size W (W.alloc o1) := fun o1 => (Below.refl _ W).alloc (Nat.le_refl _) o1
  have cB : ∀ a w, Below W.heap.size W w → Calls Tryd.prog 62 #[ptr q, .string a] w fun e w' => e = .returned (.tuple #[W4 (balN L R a), .int .i64 (kerr L a)]) ∧ Below w.heap.size w w' := fun a w hb => Balance_R (h.below hb) (hk.below hb) hR hok hL a
  have cf := cB f
  have ct := cB t
  have hfe : kerr L f = 0 ∨ kerr L f = 190 := by unfold kerr; split <;> simp
  have hte : kerr L t = 0 ∨ kerr L t = 190 := by unfold kerr; split <;> simp
  have hnn : ¬ (kerr L f = 0 ∧ kerr L t = 0) := fun ⟨h1, h2⟩ => by
    rcases hK with hK | hK
    · rw [kerr_none hK] at h1; omega
    · rw [kerr_none hK] at h2; omega
  generalize kerr L f = ef at *
  generalize kerr L t = et at *
  generalize balN L R f = x at *
  generalize balN L R t = y at *
  clear hok hL hk hK cB
  unfold ptr at *
  rcases hfe with rfl | rfl
  · rcases hte with rfl | rfl
    · exact absurd ⟨rfl, rfl⟩ hnn
    · go_enter Tryd.func46, Tryd.ntmps46
      go_wp2_with (first | (go_at_call 62; first | (with_reducible refine (cf _ (bel _)).mono ?_; rintro e wa ⟨rfl, hb_wa⟩; have hc_wa := (bcell hb_wa).1; have hf_wa := (bcell hb_wa).2; have hz_wa : _ ≤ wa.heap.size := hb_wa.size; (try simp only [World.size_alloc, World.heap_drewN, World.size_setCell, heap_drew] at hc_wa hf_wa hz_wa); have hz_wa_W_0 : W.heap.size < wa.heap.size := (by omega); have ba := fun o => ((bel _).trans (hb_wa.mono (bel _).size)).alloc (Nat.le_of_lt hz_wa_W_0) o) | (with_reducible refine (ct _ (ba _)).mono ?_; rintro e wb ⟨rfl, hb_wb⟩; have hc_wb := (bcell hb_wb).1; have hf_wb := (bcell hb_wb).2; have hz_wb : _ ≤ wb.heap.size := hb_wb.size; (try simp only [World.size_alloc, World.heap_drewN, World.size_setCell, heap_drew] at hc_wb hf_wb hz_wb); have hz_wb_W_0 : W.heap.size < wb.heap.size := (by omega); have hz_wb_wa_0 : wa.heap.size < wb.heap.size := (by omega); have bb := fun o => ((ba _).trans (hb_wb.mono (ba _).size)).alloc (Nat.le_of_lt hz_wb_W_0) o)))
      go_ret
      exact h.keep ⟨rfl, bb _⟩
  · rcases hte with rfl | rfl
    · go_enter Tryd.func46, Tryd.ntmps46
      go_wp2_with (first | (go_at_call 62; first | (with_reducible refine (cf _ (bel _)).mono ?_; rintro e wa ⟨rfl, hb_wa⟩; have hc_wa := (bcell hb_wa).1; have hf_wa := (bcell hb_wa).2; have hz_wa : _ ≤ wa.heap.size := hb_wa.size; (try simp only [World.size_alloc, World.heap_drewN, World.size_setCell, heap_drew] at hc_wa hf_wa hz_wa); have hz_wa_W_0 : W.heap.size < wa.heap.size := (by omega); have ba := fun o => ((bel _).trans (hb_wa.mono (bel _).size)).alloc (Nat.le_of_lt hz_wa_W_0) o) | (with_reducible refine (ct _ (ba _)).mono ?_; rintro e wb ⟨rfl, hb_wb⟩; have hc_wb := (bcell hb_wb).1; have hf_wb := (bcell hb_wb).2; have hz_wb : _ ≤ wb.heap.size := hb_wb.size; (try simp only [World.size_alloc, World.heap_drewN, World.size_setCell, heap_drew] at hc_wb hf_wb hz_wb); have hz_wb_W_0 : W.heap.size < wb.heap.size := (by omega); have hz_wb_wa_0 : wa.heap.size < wb.heap.size := (by omega); have bb := fun o => ((ba _).trans (hb_wb.mono (ba _).size)).alloc (Nat.le_of_lt hz_wb_W_0) o)))
      go_ret
      exact h.keep ⟨rfl, bb _⟩
    · go_enter Tryd.func46, Tryd.ntmps46
      go_wp2_with (first | (go_at_call 62; first | (with_reducible refine (cf _ (bel _)).mono ?_; rintro e wa ⟨rfl, hb_wa⟩; have hc_wa := (bcell hb_wa).1; have hf_wa := (bcell hb_wa).2; have hz_wa : _ ≤ wa.heap.size := hb_wa.size; (try simp only [World.size_alloc, World.heap_drewN, World.size_setCell, heap_drew] at hc_wa hf_wa hz_wa); have hz_wa_W_0 : W.heap.size < wa.heap.size := (by omega); have ba := fun o => ((bel _).trans (hb_wa.mono (bel _).size)).alloc (Nat.le_of_lt hz_wa_W_0) o) | (with_reducible refine (ct _ (ba _)).mono ?_; rintro e wb ⟨rfl, hb_wb⟩; have hc_wb := (bcell hb_wb).1; have hf_wb := (bcell hb_wb).2; have hz_wb : _ ≤ wb.heap.size := hb_wb.size; (try simp only [World.size_alloc, World.heap_drewN, World.size_setCell, heap_drew] at hc_wb hf_wb hz_wb); have hz_wb_W_0 : W.heap.size < wb.heap.size := (by omega); have hz_wb_wa_0 : wa.heap.size < wb.heap.size := (by omega); have bb := fun o => ((ba _).trans (hb_wb.mono (ba _).size)).alloc (Nat.le_of_lt hz_wb_W_0) o)))
      go_ret
      exact h.keep ⟨rfl, bb _⟩

set_option maxRecDepth 100000 in
set_option maxHeartbeats 16000000 in
theorem Move_Rpoor (h : RRep W G q lv R) (hk : knL W lv L) (hR : R.length ≤ 1000000) (hok : ∀ c ∈ R, c.ok) (hL : ∀ K ∈ L, K.ba < Q256) (f t : ByteArray) (n : Nat) (hn : n < Q256) {Kf Kt : Kw} (hKf : kfind L f = some Kf) (hKt : kfind L t = some Kt) (hlt0 : ltB (baF L R f) n = true) :
    Calls Tryd.prog 46 #[ptr q, .string f, .string t, W4 n] W (mrPost W G q lv (R) (.int .i64 191)) := by
  have bel : ∀ o1, Below W.heap.size W (W.alloc o1) := fun o1 => (Below.refl _ W).alloc (Nat.le_refl _) o1
  have cB : ∀ a w, Below W.heap.size W w → Calls Tryd.prog 62 #[ptr q, .string a] w fun e w' => e = .returned (.tuple #[W4 (balN L R a), .int .i64 (kerr L a)]) ∧ Below w.heap.size w w' := fun a w hb => Balance_R (h.below hb) (hk.below hb) hR hok hL a
  have cL : ∀ w, Calls Tryd.prog 63 #[W4 (baF L R f), W4 n] w fun e w' => e = .returned (.bool true) ∧ Below w.heap.size w w' := fun w => by rw [← hlt0]; exact ref_Less _ _ (baF_lt hL R f) hn w
  have cf := cB f
  have ct := cB t
  rw [kerr_some hKf, balN_some hKf] at cf
  rw [kerr_some hKt, balN_some hKt] at ct
  generalize baF L R f = x at *
  generalize baF L R t = y at *
  clear hok hL hk hKf hKt hlt0 cB
  unfold ptr at *
  go_enter Tryd.func46, Tryd.ntmps46
  go_wp2_with (first | (go_at_call 62; first | (with_reducible refine (cf _ (bel _)).mono ?_; rintro e wa ⟨rfl, hb_wa⟩; have hc_wa := (bcell hb_wa).1; have hf_wa := (bcell hb_wa).2; have hz_wa : _ ≤ wa.heap.size := hb_wa.size; (try simp only [World.size_alloc, World.heap_drewN, World.size_setCell, heap_drew] at hc_wa hf_wa hz_wa); have hz_wa_W_0 : W.heap.size < wa.heap.size := (by omega); have ba := fun o => ((bel _).trans (hb_wa.mono (bel _).size)).alloc (Nat.le_of_lt hz_wa_W_0) o) | (with_reducible refine (ct _ (ba _)).mono ?_; rintro e wb ⟨rfl, hb_wb⟩; have hc_wb := (bcell hb_wb).1; have hf_wb := (bcell hb_wb).2; have hz_wb : _ ≤ wb.heap.size := hb_wb.size; (try simp only [World.size_alloc, World.heap_drewN, World.size_setCell, heap_drew] at hc_wb hf_wb hz_wb); have hz_wb_W_0 : W.heap.size < wb.heap.size := (by omega); have hz_wb_wa_0 : wa.heap.size < wb.heap.size := (by omega); have bb := fun o => ((ba _).trans (hb_wb.mono (ba _).size)).alloc (Nat.le_of_lt hz_wb_W_0) o)) | (go_at_call 63; with_reducible refine (cL _).mono ?_; rintro e wc ⟨rfl, hb_wc⟩; have hc_wc := (bcell hb_wc).1; have hf_wc := (bcell hb_wc).2; have hz_wc : _ ≤ wc.heap.size := hb_wc.size; (try simp only [World.size_alloc, World.heap_drewN, World.size_setCell, heap_drew] at hc_wc hf_wc hz_wc); have hz_wc_W_0 : W.heap.size < wc.heap.size := (by omega); have hz_wc_wa_0 : wa.heap.size < wc.heap.size := (by omega); have hz_wc_wb_0 : wb.heap.size < wc.heap.size := (by omega)))
  go_ret
  exact h.keep ⟨rfl, (bb _).trans (hb_wc.mono (bb _).size)⟩

set_option maxRecDepth 100000 in
set_option maxHeartbeats 16000000 in
theorem Move_Rok (h : RRep W G q lv R) (hk : knL W lv L) (hR : R.length ≤ 1000000) (hok : ∀ c ∈ R, c.ok) (hL : ∀ K ∈ L, K.ba < Q256) (f t : ByteArray) (n : Nat) (hn : n < Q256) {Kf Kt : Kw} (hKf : kfind L f = some Kf) (hKt : kfind L t = some Kt) (hlt0 : ltB (baF L R f) n = false) :
    Calls Tryd.prog 46 #[ptr q, .string f, .string t, W4 n] W (mrPost W G q lv (.move f t n :: R) (.int .i64 0)) := by
  obtain ⟨ga, gc, hb, c0, c1, hrow, hown, hcap, hg, _⟩ := h.cells
  have hgl := h.glt
  have hgq := h.gq
  have hlt := (Array.getElem?_eq_some_iff.1 hb).1
  obtain ⟨j0, hj, hy0, hy1, hy2⟩ := info_parts infoC
  have bel : ∀ o1, Below W.heap.size W (W.alloc o1) := fun o1 => (Below.refl _ W).alloc (Nat.le_refl _) o1
  have cB : ∀ a w, Below W.heap.size W w → Calls Tryd.prog 62 #[ptr q, .string a] w fun e w' => e = .returned (.tuple #[W4 (balN L R a), .int .i64 (kerr L a)]) ∧ Below w.heap.size w w' := fun a w hb => Balance_R (h.below hb) (hk.below hb) hR hok hL a
  have cL : ∀ w, Calls Tryd.prog 63 #[W4 (baF L R f), W4 n] w fun e w' => e = .returned (.bool false) ∧ Below w.heap.size w w' := fun w => by rw [← hlt0]; exact ref_Less _ _ (baF_lt hL R f) hn w
  have cf := cB f
  have ct := cB t
  rw [kerr_some hKf, balN_some hKf] at cf
  rw [kerr_some hKt, balN_some hKt] at ct
  generalize baF L R f = x at *
  generalize baF L R t = y at *
  clear hok hL hk hKf hKt hlt0 cB
  unfold ptr at *
  go_enter Tryd.func46, Tryd.ntmps46
  go_wp2_with (first | (go_at_call 62; first | (with_reducible refine (cf _ (bel _)).mono ?_; rintro e wa ⟨rfl, hb_wa⟩; have hc_wa := (bcell hb_wa).1; have hf_wa := (bcell hb_wa).2; have hz_wa : _ ≤ wa.heap.size := hb_wa.size; (try simp only [World.size_alloc, World.heap_drewN, World.size_setCell, heap_drew] at hc_wa hf_wa hz_wa); have hz_wa_W_0 : W.heap.size < wa.heap.size := (by omega); have ba := fun o => ((bel _).trans (hb_wa.mono (bel _).size)).alloc (Nat.le_of_lt hz_wa_W_0) o) | (with_reducible refine (ct _ (ba _)).mono ?_; rintro e wb ⟨rfl, hb_wb⟩; have hc_wb := (bcell hb_wb).1; have hf_wb := (bcell hb_wb).2; have hz_wb : _ ≤ wb.heap.size := hb_wb.size; (try simp only [World.size_alloc, World.heap_drewN, World.size_setCell, heap_drew] at hc_wb hf_wb hz_wb); have hz_wb_W_0 : W.heap.size < wb.heap.size := (by omega); have hz_wb_wa_0 : wa.heap.size < wb.heap.size := (by omega); have bb := fun o => ((ba _).trans (hb_wb.mono (ba _).size)).alloc (Nat.le_of_lt hz_wb_W_0) o)) | (go_at_call 63; with_reducible refine (cL _).mono ?_; rintro e W1 ⟨rfl, hb_wc⟩; have hc_W1 := (bcell hb_wc).1; have hf_W1 := (bcell hb_wc).2; have hz_W1 : _ ≤ W1.heap.size := hb_wc.size; (try simp only [World.size_alloc, World.heap_drewN, World.size_setCell, heap_drew] at hc_W1 hf_W1 hz_W1); have hz_W1_W_0 : W.heap.size < W1.heap.size := (by omega); have hz_W1_wa_0 : wa.heap.size < W1.heap.size := (by omega); have hz_W1_wb_0 : wb.heap.size < W1.heap.size := (by omega)))
  have kA : wa.heap[W.heap.size]? = some (Obj.cells #[.int .u64 (lb n 0 : Nat), .int .u64 (lb n 1 : Nat), .int .u64 (lb n 2 : Nat), .int .u64 (lb n 3 : Nat)] 25 (0, 0)) := (hb_wa.block _ (by simp)).trans (heap_new rfl)
  have kB : wb.heap[W.heap.size]? = _ := (hb_wb.block _ (by simp only [World.size_alloc]; omega)).trans ((Below.heap_alloc _ _ _ (by omega)).trans kA)
  have kv : W1.heap[W.heap.size]? = _ := (hb_wc.block _ (by simp only [World.size_alloc]; omega)).trans ((Below.heap_alloc _ _ _ (by omega)).trans kB)
  have b1 : Below W.heap.size W W1 := (bb _).trans (hb_wc.mono (bb _).size)
  clear hb_wa hc_wa hf_wa hb_wb hc_wb hf_wb hb_wc hc_W1 hf_W1 ba bb cL cf ct kA kB bel
  have k1 := (b1.block _ hlt).trans hb
  have hrow1 : W1.ownsRow 0 94 14 (Value.slice ga R.length gc) R.length (chC R.reverse) := ownsRow_same hrow fun k hk => b1.block k (hgl k (hown k hk))
  obtain ⟨x0, x1, x2, x3⟩ := cells4w kv
  have hN0 : ¬ ((Value.slice ga R.length gc).ownBlock = some (W.heap.size) ∨ W.heap.size = q) := fun h => by
    rcases h with h | h
    · have := hgl _ (hown _ h)
      omega
    · omega
  clear c0 c1 hg
  refine wp_flowU (fun k => ([0, 0, 0, 0, 0, 1, 1, 1, 1, 2, 2, 1, 1, 4] : List Nat).getD k 1) (chR W1 q lv (Value.slice ga R.length gc) R.length (chC R.reverse) [.int .i64 3, .string f, .string t, .int .u64 0, .int .u64 0, .int .u64 0, .int .u64 0, .int .u64 (lb n 0 : Nat), .int .u64 (lb n 1 : Nat), .int .u64 (lb n 2 : Nat), .int .u64 (lb n 3 : Nat), .string ⟨#[]⟩, .slice none 0 0, .string ⟨#[]⟩]) (fun s => s.st ≤ 2) (⟨0, 0, undef⟩) (⟨Fr.drew (Fr.refl _ _), k1, fun _ => hrow1, fun h => (by cases h), fun h => (by simp at h)⟩) (by decide) (by kernel_rfl) (by kernel_rfl) ?_
  iterate 5 ((refine flowU_lateE rfl rfl (fun K hK => ?_); apply Exists.intro; apply And.intro; (focus (intro s0 w' hC hR; have hq := hR.st; rw [if_pos (by first | exact hC | simp)] at hq; have e1 : w'.cell? ⟨q, 1, none⟩ = some (Value.slice ga R.length gc) := (by simp [World.cell?, hq]); have p0 := hR.fr.cell x0 hN0 (by omega); have p1 := hR.fr.cell x1 hN0 (by omega); have p2 := hR.fr.cell x2 hN0 (by omega); have p3 := hR.fr.cell x3 hN0 (by omega); clear hq hR; go_simp; (try go_bits); exact rfl)); go_simp; (try go_bits); refine hK _ ?_; clear hK K))
  iterate 4 ((refine flowU_readE rfl rfl (fun K hK => ?_); apply Exists.intro; apply And.intro; (focus (intro w' hR; have hq := hR.st; rw [if_pos (by first | exact hC | simp)] at hq; have e1 : w'.cell? ⟨q, 1, none⟩ = some (Value.slice ga R.length gc) := (by simp [World.cell?, hq]); have p0 := hR.fr.cell x0 hN0 (by omega); have p1 := hR.fr.cell x1 hN0 (by omega); have p2 := hR.fr.cell x2 hN0 (by omega); have p3 := hR.fr.cell x3 hN0 (by omega); clear hq hR; go_simp; (try go_bits); exact rfl)); go_simp; (try go_bits); refine hK _ ?_; clear hK K))
  refine flowU_step puPB (by decide) rfl ⟨.slice (some ⟨0, 0, none⟩) 1 1, _, 0, rfl, rfl⟩ (fun w' hR => ?_) (fun _ _ v s2 h => (by obtain ⟨g, _, rfl⟩ := h; exact (by decide : (1 : Nat) ≤ 2))) (fun K hK v s2 hs2 => ?_)
  focus
    have hst' := hR.st
    have hlt' := (Array.getElem?_eq_some_iff.1 hst').1
    have hfr := hR.fr
    have hro := hR.row (Nat.zero_le _)
    clear hR
    go_simp
    exact ⟨⟨1, w'.heap.size, undef⟩, ⟨_, rfl, rfl⟩, hfr.alloc _, (Below.heap_alloc _ _ _ hlt').trans hst', fun _ => hro.alloc _, fun _ => ⟨hfr.size, heap_new rfl⟩, fun h => (by simp at h)⟩
  obtain ⟨g, rfl, rfl⟩ := hs2
  (go_simp; refine hK _ _ ?_; clear hK K)
  refine flowU_step (puPA (R.length + 1) g) (by decide) rfl ⟨_, _, 0, 0, rfl, rfl⟩ (fun w' hR => ?_) (fun _ _ v s2 h => (by obtain ⟨_, _, _, rfl⟩ := h; exact (by decide : (2 : Nat) ≤ 2))) (fun K hK v s2 hs2 => ?_)
  focus
    have hst' := hR.st
    have hlt' := (Array.getElem?_eq_some_iff.1 hst').1
    obtain ⟨hg1, hg2⟩ := hR.one rfl
    have hro := hR.row (Nat.le_refl _)
    have hfr := hR.fr
    clear hR
    obtain ⟨v', w2, hr, hown', hgrow, _, hloc⟩ := run_append_own_at (P := Tryd.prog) w' 0 89 89 94 j0 _ 14 160 Tryd.underlying89 hj hy0 hy1 hy2 rfl (by decide) (Value.slice ga R.length gc) R.length (chC R.reverse) hro ⟨g, 0, none⟩ 1 1 [.int .i64 3, .string f, .string t, .int .u64 0, .int .u64 0, .int .u64 0, .int .u64 0, .int .u64 (lb n 0 : Nat), .int .u64 (lb n 1 : Nat), .int .u64 (lb n 2 : Nat), .int .u64 (lb n 3 : Nat), .string ⟨#[]⟩, .slice none 0 0, .string ⟨#[]⟩] rfl
      (fun j u hj => by
        have hg3 : w'.heap[g]? = _ := hg2
        rw [World.cell?_of_block (w := w') (w' := w') rfl]
        have hj3 : j < 14 := (List.getElem?_eq_some_iff.1 hj).1
        exact one_cells hg3 rfl hj) (by simp [Value.oneCell']) (by unfold maxLen; omega) (by omega) (Nat.zero_le _)
    rw [append_exec (P := Tryd.prog) rfl rfl rfl hr]
    have hne : (Value.slice ga R.length gc).ownBlock ≠ some q := fun e => by
      obtain ⟨cs, h3⟩ := row_block hro e
      rw [h3] at hst'
      injection hst' with h6
      injection h6 with _ h6
      exact absurd h6 (by decide)
    obtain ⟨ql, cap, rfl⟩ : ∃ ql cap, v' = .slice (some ⟨ql, 0, none⟩) (R.length + 1) cap := by
      rcases hown'.2 with ⟨_, h0⟩ | ⟨ql, cap, cur, h0, _⟩
      · simp at h0
      · exact ⟨ql, cap, h0⟩
    refine ⟨⟨2, g, _⟩, ⟨ql, cap, rfl, rfl⟩, hfr.trans ⟨hgrow.os, hgrow.tape, hgrow.output, hgrow.size, fun k hk hT => hgrow.block k hk fun e => hT (.inl e.symm)⟩, (hgrow.block _ hlt' (fun e => hne e.symm)).trans hst', fun h => (by simp at h), fun h => (by cases h), fun _ => ⟨hown', ?_⟩⟩
    rcases hloc with h | h
    · exact .inl h
    · exact .inr ⟨_, h, hfr.size⟩
  obtain ⟨ql, capl, rfl, rfl⟩ := hs2
  (go_simp; refine hK _ _ ?_; clear hK K)
  iterate 2 ((refine flowU_readE rfl rfl (fun K hK => ?_); apply Exists.intro; apply And.intro; (focus (intro w' hR; have hq := hR.st; rw [if_pos (by first | exact hC | simp)] at hq; have e1 : w'.cell? ⟨q, 1, none⟩ = some (Value.slice ga R.length gc) := (by simp [World.cell?, hq]); have p0 := hR.fr.cell x0 hN0 (by omega); have p1 := hR.fr.cell x1 hN0 (by omega); have p2 := hR.fr.cell x2 hN0 (by omega); have p3 := hR.fr.cell x3 hN0 (by omega); clear hq hR; go_simp; (try go_bits); exact rfl)); go_simp; (try go_bits); refine hK _ ?_; clear hK K))
  refine flowU_step (puPC g (Value.slice (some ⟨ql, 0, none⟩) (R.length + 1) capl)) (by decide) rfl ⟨undef, _, rfl, rfl⟩ (fun w' hR => ?_) (fun h => absurd rfl h) (fun K hK v s2 hs2 => ?_)
  focus
    have hst' := hR.st
    rw [if_pos (by simp)] at hst'
    have hlt' := (Array.getElem?_eq_some_iff.1 hst').1
    have f1 : w'.frozen? ⟨q, 1, none⟩ = false := by simp [World.frozen?, hst']
    have d1 : w'.cell? ⟨q, 1, none⟩ = some (Value.slice ga R.length gc) := by simp [World.cell?, hst']
    obtain ⟨n1, n2⟩ := hR.new (Nat.le_refl _)
    have hfr := hR.fr
    clear hR
    dsimp only at n1 n2
    have hne : (Value.slice (some ⟨ql, 0, none⟩) (R.length + 1) capl).ownBlock ≠ some q := fun e => by
      obtain ⟨cs, h3⟩ := row_block n1 e
      rw [h3] at hst'
      injection hst' with h6
      injection h6 with _ h6
      exact absurd h6 (by decide)
    go_simp
    exact ⟨⟨3, g, Value.slice (some ⟨ql, 0, none⟩) (R.length + 1) capl⟩, ⟨rfl, rfl⟩, hfr.setCell (.inl (.inr rfl)) _, st_set1 hst' _, fun h => (by simp at h), fun h => (by simp at h), fun _ => ⟨ownsRow_same n1 fun k hk => heap_set_ne (fun e => hne (e ▸ hk)), n2⟩⟩
  obtain ⟨rfl, rfl⟩ := hs2
  (go_simp; refine hK _ _ ?_; clear hK K)
  refine flowU_nil ?_
  intro w3 hR3
  have fin := chR.done (c := .move f t n) hgl hgq hown b1 (by simp only [Chg.c, chV, Chg.ki, Chg.fr, Chg.to, Chg.ke, Chg.va, Chg.lo, Lg.nil, lb_nil]; rfl) hR3 (by rfl)
  clear hR3
  go_wp2
  go_ret
  exact ⟨rfl, fin⟩

end
end Go.Proofs.YtcdjdnbdblpofaaDoor

/- What the document's state noted: Logs; New; Back. Conditions: the blocks say what it is. -/
namespace Go.Proofs.YtcdjdnbdblpofaaDoor
open Go.RowKit Go.Maps
attribute [local go_sem] leftBy leaves
set_option linter.unusedSimpArgs false
set_option linter.unusedVariables false

theorem ownsRow_base {W : World} {b : Nat} {e : TypeId} {size n : Nat} {v : Value} {xs : List Value} (h : W.ownsRow b e size v n xs) : W.ownsRow 0 e size v n xs := by
  obtain ⟨h1, h2 | ⟨g, cap, cur, hv, h2, h3⟩⟩ := h
  · exact ⟨h1, .inl h2⟩
  · exact ⟨h1, .inr ⟨g, cap, cur, hv, Nat.zero_le _, h3⟩⟩
theorem ownsRow_low {W : World} {b : Nat} {e : TypeId} {size n : Nat} {v : Value} {xs : List Value} (h : W.ownsRow b e size v n xs) : ∀ k, v.ownBlock = some k → b ≤ k := fun k hk => by
  obtain ⟨h1, ⟨rfl, _⟩ | ⟨g, cap, cur, rfl, h2, h3⟩⟩ := h
  · cases hk
  · obtain rfl : g = k := Option.some.inj hk
    exact h2
/-- The logs behind a change. -/
theorem lgF_step {c : Chg} {R : List Chg} : lgF (c :: R) = if c.ki = 6 then lgF R ++ [c.lo] else lgF R := by
  cases c <;> simp [lgF, Chg.ki, Chg.lo]

section
variable {W : World} {G : Nat → Prop} {q : Nat} {lv : Value} {L : List Kw} {R : List Chg}

set_option maxRecDepth 100000 in
set_option maxHeartbeats 16000000 in
theorem Logs_R (h : RRep W G q lv R) (hR : R.length ≤ 1000000) :
    Calls Tryd.prog 29 #[ptr q] W (lgPost W (lgF R)) := by
  obtain ⟨g, cap, hb, c0, c1, _, _, hcap, hg, hcell⟩ := h.cells
  have hlt := (Array.getElem?_eq_some_iff.1 hb).1
  obtain ⟨i0, hi, hz0, hz1, hz2⟩ := info_parts infoL
  have HC := Lib.hid hcell
  have HG := Lib.hid hg
  have hR2 : R.length ≤ 9223372036854775807 := by omega
  unfold maxLen at hcap
  clear hcell h hg hb c0
  unfold ptr
  go_enter Tryd.func29, Tryd.ntmps29
  go_wp2
  go_loopw [3, 4] (fun o v wr => ∃ i : Nat, i ≤ R.length ∧ v = .int .i64 (i : Nat) ∧ wr.ownsRow W.heap.size 43 3 o (lgF (R.drop (R.length - i))).length (lgC (lgF (R.drop (R.length - i)))) ∧ Below W.heap.size W wr) (fun _ v _ => R.length - (intOf v).toNat)
  case atStart =>
    refine ⟨0, Nat.zero_le _, rfl, ?_, Below.refl _ _⟩
    rw [Nat.sub_zero, List.drop_length]
    exact World.ownsRow_nil _ _ _ _
  case round =>
    obtain ⟨i, hi2, rfl, hown, hbel⟩ := hrel
    have e1 := (hbel.cell (p := ⟨q, 1, none⟩) hlt).trans c1
    have hsz := hbel.size
    by_cases hli : i < R.length
    · obtain ⟨c, hc, hd⟩ := rev_at hli
      obtain ⟨gb, rfl, hgl⟩ := HG.out (by omega)
      have hcc := HC.out i c hc
      have g := fun j u hu => ((hbel.cell (p := ⟨gb, i * 14 + j, none⟩) hgl).trans (by obtain ⟨gb2, e, hx⟩ := hcc j u hu; cases e; exact hx))
      have g0 : _ = some (Value.int .i64 (c.ki : Nat)) := g 0 _ rfl
      have g11 : _ = some (Value.string c.lo.ad) := g 11 _ rfl
      have g12 : _ = some (Value.slice c.lo.tp c.lo.tn c.lo.tc) := g 12 _ rfl
      have g13 : _ = some (Value.string c.lo.dt) := g 13 _ rfl
      rw [Nat.add_zero] at g0
      have hst := lgF_step (c := c) (R := R.drop (R.length - i))
      rw [← hd, show R.length - 1 - i = R.length - (i + 1) by omega] at hst
      clear g hcc hc hd
      have hlen : (lgF (R.drop (R.length - i))).length ≤ 1000000 := by
        have := lgF_le (R.drop (R.length - i))
        rw [List.length_drop] at this
        omega
      generalize lgF (R.drop (R.length - i)) = l at *
      generalize c.ki = ki at *
      generalize c.lo = x at *
      by_cases h6 : ki = 6
      · subst h6
        rw [if_pos rfl] at hst
        have HS := Lib.hid hst
        clear hst
        go_wp2_with (at_builtin; refine wpList_append_own_at _ rfl _ _ 37 rfl W.heap.size 43 i0 _ 3 56 Tryd.underlying37 hi hz0 hz1 hz2 rfl (by decide) _ _ _ rfl (hown.alloc _) ⟨wr.heap.size, 0, none⟩ 1 1 [.string x.ad, .slice x.tp x.tn x.tc, .string x.dt] rfl rfl ?c1 ?c2 ?c3 ?c4 ?c5 ?_)
        case c1 =>
          intro k u hk
          have hg3 : (wr.alloc (.cells #[.string x.ad, .slice x.tp x.tn x.tc, .string x.dt] 43)).heap[wr.heap.size]? = _ := heap_new rfl
          exact one_cells hg3 rfl hk
        case c2 => simp [Value.oneCell']
        case c3 => unfold maxLen; omega
        case c4 => omega
        case c5 => simp; omega
        intro v' w1 hown1 hgr1 _ _
        have hb1 : Below W.heap.size W w1 := (hbel.alloc hsz _).grown hgr1 (by simp; omega) (fun k hk => ownsRow_low hown k hk)
        clear hgr1 hown
        go_wp2
        go_roundw
        case rel =>
          refine ⟨i + 1, by omega, by go_num, ?_, hb1⟩
          rw [HS.out, List.length_append, show lgC (l ++ [x]) = lgC l ++ [.string x.ad, .slice x.tp x.tn x.tc, .string x.dt] by simp [lgC, Lg.c]]
          exact hown1
        case measure => simp [intOf]; omega
      · rw [if_neg h6] at hst
        have hne : (((ki : Nat) : Int) == 6) = false := by simp; omega
        have HS := Lib.hid hst
        clear hst
        go_wp2
        go_roundw
        case rel => exact ⟨i + 1, by omega, by go_num, by rw [HS.out]; exact hown, hbel⟩
        case measure => simp [intOf]; omega
    · obtain rfl : i = R.length := by omega
      rw [Nat.sub_self, List.drop_zero] at hown
      go_wp2
      go_ret
      exact ⟨_, rfl, lgV_of_row (ownsRow_base hown), hbel⟩

set_option maxRecDepth 100000 in
set_option maxHeartbeats 8000000 in
theorem New_R {W : World} {a : Option Addr} {c : Nat} {L : List Kw} (hv : knL W (.slice a L.length c) L) (hn : L.length ≤ 200) :
    Calls Tryd.prog 25 #[.slice a L.length c] W fun e w' => e = .returned (ptr W.heap.size) ∧ Below W.heap.size W w' ∧ RRep w' (fun k => k = W.heap.size) W.heap.size (.slice a L.length c) [] := by
  have hn0 : L.length ≤ c ∧ c ≤ maxLen := by
    obtain ⟨_, _, h, h1, h2, _⟩ := hv
    simp only [Value.slice.injEq] at h
    obtain ⟨-, -, rfl⟩ := h
    exact ⟨h1, h2⟩
  unfold maxLen at hn0
  obtain ⟨hn1, hn2⟩ := hn0
  have hn3 : L.length ≤ 9223372036854775807 := by omega
  have hmin : min (L.length : Int) 200 = (L.length : Int) := by omega
  go_enter Tryd.func25, Tryd.ntmps25
  go_wp2
  go_ret
  refine ⟨rfl, (Below.refl _ W).alloc (Nat.le_refl _) _, fun k hk => by rw [hk]; simp, rfl, _, heap_new rfl, World.ownsRow_nil _ _ _ _, fun k hk => by cases hk⟩

set_option maxRecDepth 100000 in
set_option maxHeartbeats 8000000 in
theorem Back_no (h : RRep W G q lv R) (hR : R.length ≤ 1000000) (m : Int) (hm : m < 0 ∨ (R.length : Int) < m) (hm2 : -9223372036854775808 ≤ m ∧ m ≤ 9223372036854775807) :
    Calls Tryd.prog 50 #[ptr q, .int .i64 m] W fun e w' => e = .returned (.int .i64 2) ∧ Below W.heap.size W w' := by
  obtain ⟨g, cap, hb, c0, c1, _⟩ := h.cells
  have hlt := (Array.getElem?_eq_some_iff.1 hb).1
  have hR2 : R.length ≤ 9223372036854775807 := by omega
  unfold ptr
  by_cases h0 : m < 0
  · go_enter Tryd.func50, Tryd.ntmps50
    go_wp2
    go_ret
    exact ⟨rfl, Below.refl _ _⟩
  · have h1 : (R.length : Int) < m := by omega
    go_enter Tryd.func50, Tryd.ntmps50
    go_wp2
    go_ret
    exact ⟨rfl, Below.refl _ _⟩

set_option maxRecDepth 100000 in
set_option maxHeartbeats 8000000 in
theorem Back_R (h : RRep W G q lv R) (hR : R.length ≤ 1000000) (m : Nat) (hm : m ≤ R.length) :
    Calls Tryd.prog 50 #[ptr q, .int .i64 m] W (mrPost W G q lv (R.drop (R.length - m)) (.int .i64 0)) := by
  obtain ⟨g, cap, hb, c0, c1, hrow, hown, hcap, hg, _⟩ := h.cells
  have hgl := h.glt
  have hgq := h.gq
  have hlt := (Array.getElem?_eq_some_iff.1 hb).1
  have hR2 : R.length ≤ 9223372036854775807 := by omega
  unfold maxLen at hcap
  have f1 : W.frozen? ⟨q, 1, none⟩ = false := by simp [World.frozen?, hb]
  have hfin : mrPost W G q lv (R.drop (R.length - m)) (.int .i64 0) (.returned (.int .i64 0)) (W.setCell ⟨q, 1, none⟩ (.slice g m cap)) := by
    have hne : ∀ k, (Value.slice g R.length cap).ownBlock = some k → k ≠ q := fun k hk e => by
      subst e
      obtain ⟨cs, h3⟩ := row_block hrow hk
      rw [h3] at hb
      injection hb with h6
      injection h6 with _ h6
      exact absurd h6 (by decide)
    have hob : (Value.slice g m cap).ownBlock = (Value.slice g R.length cap).ownBlock := by cases g <;> rfl
    refine ⟨rfl, G, ⟨fun k hk => by simpa using hgl k hk, hgq, _, st_set1 hb _, ?_, fun k hk => hown k (hob ▸ hk)⟩, (Fr.refl _ W).setCell (p := ⟨q, 1, none⟩) (.inl hgq) _, fun _ h => h, fun _ h => .inl h⟩
    have e : (R.drop (R.length - m)).reverse = R.reverse.take m := List.take_reverse.symm
    have hrow2 : (W.setCell ⟨q, 1, none⟩ (.slice g m cap)).ownsRow 0 94 14 (.slice g R.length cap) R.length (chC R.reverse) := ownsRow_same hrow fun k hk => heap_set_ne (hne k hk)
    rw [List.length_drop, show R.length - (R.length - m) = m by omega, e]
    rcases Nat.eq_zero_or_pos R.length with hz | hz
    · obtain rfl : m = 0 := by omega
      rw [List.take_zero]
      rw [hz, List.eq_nil_of_length_eq_zero hz] at hrow2
      exact hrow2
    · obtain ⟨gb, rfl, _⟩ := hg hz
      refine ownsRow_take (n := R.length) (ys := chC (R.reverse.drop m)) ?_ (by rw [chC_length, List.length_take, List.length_reverse, Nat.min_eq_left hm]) hm
      have : chC (R.reverse.take m) ++ chC (R.reverse.drop m) = chC R.reverse := by
        unfold chC
        rw [← List.flatMap_append, List.take_append_drop]
      rw [this]
      exact hrow2
  unfold ptr
  go_enter Tryd.func50, Tryd.ntmps50
  go_wp2
  go_ret
  exact hfin
end
end Go.Proofs.YtcdjdnbdblpofaaDoor
