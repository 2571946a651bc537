/-
  What Origin answers. Conditions: the state is one; what is known is right.
-/
import Derived.Test.YtcdjdnbdblpofaaDoorPL18
import Derived.Test.YtcdjdnbdblpofaaDoorScope
import Derived.Test.YtcdjdnbdblpofaaDoorSEq
import Derived.Test.YtcdjdnbdblpofaaDoorPL19
namespace Go.Proofs.YtcdjdnbdblpofaaDoor
open Go.RowKit Go.Maps
attribute [local go_sem] leftBy leaves Oper.semAt_some eqW guardW
set_option linter.unusedSimpArgs false
set_option linter.unusedVariables false

theorem eqN {a b : Nat} (ha : a < Q256) (hb : b < Q256) : (((lb a 0 : Nat) : Int) == ((lb b 0 : Nat) : Int) && (((lb a 1 : Nat) : Int) == ((lb b 1 : Nat) : Int) && (((lb a 2 : Nat) : Int) == ((lb b 2 : Nat) : Int) && ((lb a 3 : Nat) : Int) == ((lb b 3 : Nat) : Int)))) = decide (a = b) := by
  by_cases h : a = b
  · subst h
    simp
  · rw [decide_eq_false h]
    cases hx : (((lb a 0 : Nat) : Int) == ((lb b 0 : Nat) : Int) && (((lb a 1 : Nat) : Int) == ((lb b 1 : Nat) : Int) && (((lb a 2 : Nat) : Int) == ((lb b 2 : Nat) : Int) && ((lb a 3 : Nat) : Int) == ((lb b 3 : Nat) : Int)))) with
    | false => rfl
    | true =>
      simp only [Bool.and_eq_true, beq_iff_eq, Int.natCast_inj] at hx
      exact absurd (lb_inj ha hb hx.1 hx.2.1 hx.2.2.1 hx.2.2.2) h
/-- Between two rounds of Origin's loop; and behind its end by break. -/
structure orI (w1 : World) (cs : List (Nat × Nat)) (key : Nat) (k : Nat) (X : World) : Prop where
  bel : Below w1.heap.size w1 X
  no : ∀ c ∈ cs.take k, c.1 ≠ key
structure orX (w1 : World) (cs : List (Nat × Nat)) (key qo qe : Nat) (X : World) : Prop where
  fr : Fr (fun j => j = qo ∨ j = qe) w1 X
  out : X.heap[qo]? = some (.cells (W4 (oriC cs key).1).cells 25 (0, 0))
  err : X.heap[qe]? = some (.cells #[.int .i64 0] 29 (0, 0))
  ok : (oriC cs key).2 = 0
theorem orI.below {w1 X Y : World} {cs : List (Nat × Nat)} {key k : Nat} (h : orI w1 cs key k X) (hb : Below X.heap.size X Y) : orI w1 cs key k Y := ⟨h.bel.trans (hb.mono h.bel.size), h.no⟩
theorem below_turned {w1 X Y : World} {l : Nat} (h : Below w1.heap.size w1 X) (hl : w1.heap.size ≤ l) (ht : recTurned l X Y) : Below w1.heap.size w1 Y := by
  have e := ht
  obtain ⟨o, o', h1, h2, rfl⟩ := ht
  have hg := grownBy_putObj' X l o'
  exact ⟨hg.os.trans h.os, hg.tape.trans h.tape, hg.output.trans h.output, Nat.le_trans h.size hg.size, fun k hk => (e.other (by omega)).trans (h.block k hk)⟩
theorem orI.turned {w1 X Y : World} {cs : List (Nat × Nat)} {key k l : Nat} (h : orI w1 cs key k X) (hl : w1.heap.size ≤ l) (ht : recTurned l X Y) : orI w1 cs key k Y := ⟨below_turned h.bel hl ht, h.no⟩
theorem orX.turned {w1 X Y : World} {cs : List (Nat × Nat)} {key qo qe l : Nat} (h : orX w1 cs key qo qe X) (hl : w1.heap.size ≤ l) (h1 : qo < w1.heap.size) (h2 : qe < w1.heap.size) (ht : recTurned l X Y) : orX w1 cs key qo qe Y :=
  ⟨h.fr.turned hl ht, (ht.other (by omega)).trans h.out, (ht.other (by omega)).trans h.err, h.ok⟩
theorem oriC_none {cs : List (Nat × Nat)} {key : Nat} (h : ∀ c ∈ cs, c.1 ≠ key) : oriC cs key = (0, 190) := by
  unfold oriC
  rw [List.find?_eq_none.2 fun c hc => by simpa using h c hc]
theorem oriC_hit {cs : List (Nat × Nat)} {key k : Nat} {c : Nat × Nat} (h : ∀ c ∈ cs.take k, c.1 ≠ key) (hc : cs[k]? = some c) (he : c.1 = key) : oriC cs key = (c.2, 0) := by
  have e : cs.find? (fun c => c.1 == key) = some c := by
    have hk := (List.getElem?_eq_some_iff.1 hc).1
    have hs : cs = cs.take k ++ c :: cs.drop (k + 1) := by
      have h3 := List.take_append_drop k cs
      rw [List.drop_eq_getElem_cons hk, (List.getElem?_eq_some_iff.1 hc).2] at h3
      exact h3.symm
    rw [hs, List.find?_append, List.find?_eq_none.2 fun c hc => by simpa using h c hc, Option.none_or, List.find?_cons, show (c.1 == key) = true by simpa using he]
  unfold oriC
  rw [e]
theorem take_no {cs : List (Nat × Nat)} {key k : Nat} {c : Nat × Nat} (h : ∀ c ∈ cs.take k, c.1 ≠ key) (hc : cs[k]? = some c) (he : c.1 ≠ key) : ∀ c ∈ cs.take (k + 1), c.1 ≠ key := by
  have hk := (List.getElem?_eq_some_iff.1 hc).1
  intro d hd
  rw [List.take_succ_eq_append_getElem hk, (List.getElem?_eq_some_iff.1 hc).2, List.mem_append] at hd
  rcases hd with hd | hd
  · exact h d hd
  · simp at hd
    exact hd ▸ he


section
variable {W : World} {F : Nat → Prop} {b N : Nat} {L : List Kw} {R : List Chg}

set_option maxRecDepth 100000 in
set_option maxHeartbeats 4000000 in
theorem Origin_none (a : ByteArray) (k : Nat) (W : World) (cF : ∀ o1 o2, Calls Tryd.prog 34 #[ptr (b + 6), .string a] ((W.alloc o1).alloc o2) fun e w' => e = .returned (.tuple #[Kn.zero.v, .int .i64 190]) ∧ Below ((W.alloc o1).alloc o2).heap.size ((W.alloc o1).alloc o2) w') :
    Calls Tryd.prog 15 #[ptr (b + 6), .string a, W4 k] W fun e w' => e = .returned (.tuple #[W4 0, .int .i64 190]) ∧ Below W.heap.size W w' := by
  rw [W4_zero]
  unfold Kn.v Kn.zero ptr at *
  dsimp only at cF
  go_enter Tryd.func15, Tryd.ntmps15
  go_wp2
  go_step3
  go_wp2_with (go_at_call 34; refine (cF _ _).mono ?_; rintro e wa ⟨rfl, hb_wa⟩; have hc_wa := (bcell hb_wa).1; have hf_wa := (bcell hb_wa).2; have hz_wa : _ ≤ wa.heap.size := hb_wa.size; (try simp only [World.size_alloc, World.heap_drewN, World.size_setCell, heap_drew] at hc_wa hf_wa hz_wa); have hz_wa_W_0 : W.heap.size < wa.heap.size := (by omega); have hz_wa_W_1 : W.heap.size + 1 < wa.heap.size := (by omega))
  first | refine wp_flow (fun k => ([1, 1, 1, 1, 1, 1, 1, 1, 1, 1, 1, 1, 1, 1, 1] : List Nat).getD k 1) Dr _ (Dr.next _ _) (by kernel_rfl) (by kernel_rfl) ?_ | refine wp_flow (fun k => ([1, 1, 1, 1, 1, 1, 1, 1, 1, 1, 1, 1, 1, 1, 1] : List Nat).getD k 1) Dr _ (Dr.one _) (by kernel_rfl) (by kernel_rfl) ?_
  iterate 3 ((refine flow_quiet rfl rfl (fun K hK => ?_); apply Exists.intro; apply And.intro; (focus (rintro w' ⟨nn, rfl⟩; go_simp; (try go_bits); exact ⟨rfl, Dr.of _ _⟩)); go_simp; (try go_bits); refine hK _ ?_; clear hK K))
  iterate 3 (first | (refine flow_skip rfl (fun K hK => ?_); go_simp; (try go_bits); refine hK _ ?_; clear hK K) | (refine flow_quiet rfl rfl (fun K hK => ?_); apply Exists.intro; apply And.intro; (focus (rintro w' ⟨nn, rfl⟩; go_simp; (try go_bits); exact ⟨rfl, Dr.of _ _⟩)); go_simp; (try go_bits); refine hK _ ?_; clear hK K))
  iterate 2 ((refine flow_quiet rfl rfl (fun K hK => ?_); apply Exists.intro; apply And.intro; (focus (rintro w' ⟨nn, rfl⟩; go_simp; (try go_bits); exact ⟨rfl, Dr.of _ _⟩)); go_simp; (try go_bits); refine hK _ ?_; clear hK K))
  iterate 6 (first | (refine flow_skip rfl (fun K hK => ?_); go_simp; (try go_bits); refine hK _ ?_; clear hK K) | (refine flow_quiet rfl rfl (fun K hK => ?_); apply Exists.intro; apply And.intro; (focus (rintro w' ⟨nn, rfl⟩; go_simp; (try go_bits); exact ⟨rfl, Dr.of _ _⟩)); go_simp; (try go_bits); refine hK _ ?_; clear hK K))
  (refine flow_quiet rfl rfl (fun K hK => ?_); apply Exists.intro; apply And.intro; (focus (rintro w' ⟨nn, rfl⟩; go_simp; (try go_bits); exact ⟨rfl, Dr.of _ _⟩)); go_simp; (try go_bits); refine hK _ ?_; clear hK K)
  refine flow_nil ?_
  rintro w' ⟨nq, rfl⟩
  go_wp2
  first | refine wp_flow (fun k => ([1, 0, 2, 1] : List Nat).getD k 1) (DrC (fun X => X.cell? ⟨wa.heap.size + 1, 0, none⟩ = some (.int .i64 190))) _ ⟨Dr.next _ _, ?_⟩ (by kernel_rfl) (by kernel_rfl) ?_ | refine wp_flow (fun k => ([1, 0, 2, 1] : List Nat).getD k 1) (DrC (fun X => X.cell? ⟨wa.heap.size + 1, 0, none⟩ = some (.int .i64 190))) _ ⟨Dr.one _, ?_⟩ (by kernel_rfl) (by kernel_rfl) ?_
  focus ( go_simp)
  (refine flow_quiet rfl rfl (fun K hK => ?_); apply Exists.intro; apply And.intro; (focus (rintro w' ⟨⟨nn, rfl⟩, hC⟩; go_simp; (try go_bits); exact ⟨rfl, Dr.of _ _, hC⟩)); go_simp; (try go_bits); refine hK _ ?_; clear hK K)
  (refine flow_late rfl rfl (fun K hK => ?_); apply Exists.intro; apply And.intro; (focus (rintro w0 w' ⟨hd0, hC⟩; clear hd0;  skip ; go_simp; (try go_bits); exact rfl)); go_simp; (try go_bits); refine hK _ ?_; clear hK K)
  (refine flow_eff rfl rfl (fun K hK => ?_); apply Exists.intro; apply Exists.intro; apply And.intro; (focus (rintro w' ⟨⟨nn, rfl⟩, hC⟩;  skip ; go_simp; (try go_bits); refine ⟨rfl, ?_, ?_⟩; (with_reducible first | exact Dr.store _ _ _ _ | exact Dr.store4 _ _ _ _ _ _ _ _ _ _); ( go_simp ))); go_simp; (try go_bits); refine hK _ _ ?_; clear hK K)
  (refine flow_quiet rfl rfl (fun K hK => ?_); apply Exists.intro; apply And.intro; (focus (rintro w' ⟨⟨nn, rfl⟩, hC⟩; go_simp; (try go_bits); exact ⟨rfl, Dr.of _ _, hC⟩)); go_simp; (try go_bits); refine hK _ ?_; clear hK K)
  refine flow_nil ?_
  rintro w' ⟨⟨nq, rfl⟩, hC⟩
  go_wp2
  rw [Exit.noGoto_ret]
  refine bodyPost_ret (by simp only [results, Tryd.results15]; go_simp; try rfl) rfl ⟨rfl, ?_⟩
  repeat (with_reducible first | exact Below.refl _ _ | assumption | refine below_drewN ?_ _ | refine Below.drew ?_ | refine Below.setCell ?_ (by first | omega | (simp; done) | (simp; omega)) _ | refine Below.alloc ?_ (by first | omega | (simp; done) | (simp; omega)) _ | refine Below.trans ?_ (Below.mono (by assumption) (by first | omega | (simp; done) | (simp; omega))))

set_option maxRecDepth 100000 in
set_option maxHeartbeats 8000000 in
theorem Origin_there (hW : 3 ≤ W.heap.size) (hT : KT W) (a : ByteArray) (k : Nat) (hk : k < Q256) (K : Kw) (hth : K.th = true) (hok : Kok W K)
    (cF : ∀ o1 o2, Calls Tryd.prog 34 #[ptr (b + 6), .string a] ((W.alloc o1).alloc o2) fun e w' => e = .returned (.tuple #[K.v, .int .i64 0]) ∧ Below ((W.alloc o1).alloc o2).heap.size ((W.alloc o1).alloc o2) w') :
    Calls Tryd.prog 15 #[ptr (b + 6), .string a, W4 k] W fun e w' => e = .returned (.tuple #[W4 (oriK K k).1, .int .i64 (oriK K k).2]) ∧ Below W.heap.size W w' := by
  have hE : ∀ w, 3 ≤ w.heap.size → KT w → Calls Tryd.prog 35 #[] w fun e w' => e = .returned (.agg #[.int .u64 0, .int .u64 0, .int .u64 0, .int .u64 0, .int .u64 0, .string emR, .string emC]) ∧ Below w.heap.size w w' := Empty_any
  have hori : oriK K k = if K.rt = emR then (0, 0) else oriC K.cs k := by
    unfold oriK
    simp [hth]
  rw [hori]
  clear hori
  generalize emR = er at *
  generalize emC = ec at *
  have cO := cellsOf_any K
  have cI := fun n hn l Bx J Jx W => cells_it n hn l Bx K J Jx W
  obtain ⟨ad, th, no, ba, rt, cd, hs, co, cp, cn, cc, cs⟩ := K
  dsimp only at hth
  subst hth
  unfold Kw.v Kw.kn Kn.v ptr at *
  dsimp only at *
  by_cases h1 : rt = er
  · subst h1
    simp only [if_true, W4_zero]
    go_enter Tryd.func15, Tryd.ntmps15
    go_wp2
    go_step3
    go_wp2_with (go_at_call 34; refine (cF _ _).mono ?_; rintro e wa ⟨rfl, hb_wa⟩; have hc_wa := (bcell hb_wa).1; have hf_wa := (bcell hb_wa).2; have hz_wa : _ ≤ wa.heap.size := hb_wa.size; (try simp only [World.size_alloc, World.heap_drewN, World.size_setCell, heap_drew] at hc_wa hf_wa hz_wa); have hz_wa_W_0 : W.heap.size < wa.heap.size := (by omega); have hz_wa_W_1 : W.heap.size + 1 < wa.heap.size := (by omega))
    have b2 : Below W.heap.size W wa := (((Below.refl _ W).alloc (Nat.le_refl _) _).alloc (by simp) _).trans (hb_wa.mono (by simp; omega))
    have k5 := (hb_wa.block W.heap.size (by simp; omega)).trans ((Below.heap_alloc _ _ _ (by simp)).trans (heap_new (w := W) (o := .cells #[.int .u64 (lb k 0 : Nat), .int .u64 (lb k 1 : Nat), .int .u64 (lb k 2 : Nat), .int .u64 (lb k 3 : Nat)] 25) rfl))
    have k6 := (hb_wa.block (W.heap.size + 1) (by simp)).trans (heap_new (w := W.alloc (.cells #[.int .u64 (lb k 0 : Nat), .int .u64 (lb k 1 : Nat), .int .u64 (lb k 2 : Nat), .int .u64 (lb k 3 : Nat)] 25)) (o := .cells #[.int .u64 0, .int .u64 0, .int .u64 0, .int .u64 0] 25) (by simp))
    have k8 : ((wa.alloc (.cells #[.string ad, .bool true, .int .u64 no, .int .u64 (lb ba 0 : Nat), .int .u64 (lb ba 1 : Nat), .int .u64 (lb ba 2 : Nat), .int .u64 (lb ba 3 : Nat), .string rt, .string cd, .bool hs, .string co, .slice cp cn cc] 65)).alloc (.cells #[.int .i64 0] 29)).heap[wa.heap.size]? = _ := (Below.heap_alloc _ _ _ (by simp)).trans (heap_new rfl)
    have k9 : ((wa.alloc (.cells #[.string ad, .bool true, .int .u64 no, .int .u64 (lb ba 0 : Nat), .int .u64 (lb ba 1 : Nat), .int .u64 (lb ba 2 : Nat), .int .u64 (lb ba 3 : Nat), .string rt, .string cd, .bool hs, .string co, .slice cp cn cc] 65)).alloc (.cells #[.int .i64 0] 29)).heap[wa.heap.size + 1]? = _ := heap_new (by simp)
    have k5' : ((wa.alloc (.cells #[.string ad, .bool true, .int .u64 no, .int .u64 (lb ba 0 : Nat), .int .u64 (lb ba 1 : Nat), .int .u64 (lb ba 2 : Nat), .int .u64 (lb ba 3 : Nat), .string rt, .string cd, .bool hs, .string co, .slice cp cn cc] 65)).alloc (.cells #[.int .i64 0] 29)).heap[W.heap.size]? = _ := (Below.heap_alloc _ _ _ (by simp; omega)).trans ((Below.heap_alloc _ _ _ (by omega)).trans k5)
    have k6' : ((wa.alloc (.cells #[.string ad, .bool true, .int .u64 no, .int .u64 (lb ba 0 : Nat), .int .u64 (lb ba 1 : Nat), .int .u64 (lb ba 2 : Nat), .int .u64 (lb ba 3 : Nat), .string rt, .string cd, .bool hs, .string co, .slice cp cn cc] 65)).alloc (.cells #[.int .i64 0] 29)).heap[W.heap.size + 1]? = _ := (Below.heap_alloc _ _ _ (by simp; omega)).trans ((Below.heap_alloc _ _ _ (by omega)).trans k6)
    have bF : Below W.heap.size W ((wa.alloc (.cells #[.string ad, .bool true, .int .u64 no, .int .u64 (lb ba 0 : Nat), .int .u64 (lb ba 1 : Nat), .int .u64 (lb ba 2 : Nat), .int .u64 (lb ba 3 : Nat), .string rt, .string cd, .bool hs, .string co, .slice cp cn cc] 65)).alloc (.cells #[.int .i64 0] 29)) := (b2.alloc (by omega) _).alloc (by simp; omega) _
    have hz0 : ((wa.alloc (.cells #[.string ad, .bool true, .int .u64 no, .int .u64 (lb ba 0 : Nat), .int .u64 (lb ba 1 : Nat), .int .u64 (lb ba 2 : Nat), .int .u64 (lb ba 3 : Nat), .string rt, .string cd, .bool hs, .string co, .slice cp cn cc] 65)).alloc (.cells #[.int .i64 0] 29)).heap.size ≥ wa.heap.size + 1 + 1 := by simp
    have hK0 := hT.below bF hW
    clear hc_wa hf_wa hb_wa cF hT k5 k6 b2
    generalize ((wa.alloc (.cells #[.string ad, .bool true, .int .u64 no, .int .u64 (lb ba 0 : Nat), .int .u64 (lb ba 1 : Nat), .int .u64 (lb ba 2 : Nat), .int .u64 (lb ba 3 : Nat), .string rt, .string cd, .bool hs, .string co, .slice cp cn cc] 65)).alloc (.cells #[.int .i64 0] 29)) = w0 at *
    obtain ⟨x0, x1, x2, x3, x4, x5, x6, x7, x8, x9, x10, x11⟩ := cells12 k8
    have y0 : w0.cell? ⟨wa.heap.size + 1, 0, none⟩ = some (.int .i64 0) := by simp [World.cell?, k9]
    have hw0 : 3 ≤ w0.heap.size := by omega
    have hz1 : wa.heap.size < w0.heap.size := by omega
    have hz2 : wa.heap.size + 1 < w0.heap.size := by omega
    clear x0 x2 x3 x4 x5 x6 x9 x10 x11
    refine wp_flow (fun k => ([1, 1, 1, 1, 1, 1, 1, 1, 1, 1, 1, 1, 1, 1, 1] : List Nat).getD k 1) (Below (w0.heap.size)) _ (Below.drew (Below.refl _ _)) (by kernel_rfl) (by kernel_rfl) ?_
    iterate 3 ((refine flow_quiet rfl rfl (fun K hK => ?_); apply Exists.intro; apply And.intro; (focus (intro w' hw'; have hc := (bcell hw').1; go_simp; (try go_bits); all_goals (first | exact rfl | exact ⟨rfl, hw'⟩))); go_simp; (try go_bits); refine hK _ ?_; clear hK K))
    iterate 3 (first | (refine flow_skip rfl (fun K hK => ?_); go_simp; (try go_bits); refine hK _ ?_; clear hK K) | (refine flow_quiet rfl rfl (fun K hK => ?_); apply Exists.intro; apply And.intro; (focus (intro w' hw'; have hc := (bcell hw').1; go_simp; (try go_bits); all_goals (first | exact rfl | exact ⟨rfl, hw'⟩))); go_simp; (try go_bits); refine hK _ ?_; clear hK K))
    iterate 2 ((refine flow_quiet rfl rfl (fun K hK => ?_); apply Exists.intro; apply And.intro; (focus (intro w' hw'; have hc := (bcell hw').1; go_simp; (try go_bits); all_goals (first | exact rfl | exact ⟨rfl, hw'⟩))); go_simp; (try go_bits); refine hK _ ?_; clear hK K))
    iterate 3 (first | (refine flow_skip rfl (fun K hK => ?_); go_simp; (try go_bits); refine hK _ ?_; clear hK K) | (refine flow_quiet rfl rfl (fun K hK => ?_); apply Exists.intro; apply And.intro; (focus (intro w' hw'; have hc := (bcell hw').1; go_simp; (try go_bits); all_goals (first | exact rfl | exact ⟨rfl, hw'⟩))); go_simp; (try go_bits); refine hK _ ?_; clear hK K))
    first | (refine flow_skip rfl (fun K hK => ?_); go_simp; (try go_bits); refine hK _ ?_; clear hK K) | (refine flow_quiet rfl rfl (fun K hK => ?_); apply Exists.intro; apply And.intro; (focus (intro w' hw'; have hc := (bcell hw').1; go_simp; (try go_bits); all_goals (go_at_call 35; with_reducible refine (hE _ (Nat.le_trans hw0 hw'.size) (hK0.below hw' hw0)).mono ?_; rintro e w2 ⟨rfl, hb⟩; exact ⟨rfl, hw'.trans (hb.mono (below_le hw' (by simp)))⟩))); go_simp; (try go_bits); refine hK _ ?_; clear hK K) | (refine flow_quiet rfl rfl (fun K hK => ?_); apply Exists.intro; apply And.intro; (focus (intro w' hw'; have hc := (bcell hw').1; go_simp; (try go_bits); all_goals (go_at_call 35; refine (hE _ (Nat.le_trans hw0 hw'.size) (hK0.below hw' hw0)).mono ?_; rintro e w2 ⟨rfl, hb⟩; exact ⟨rfl, hw'.trans (hb.mono (below_le hw' (by simp)))⟩))); go_simp; (try go_bits); refine hK _ ?_; clear hK K)
    iterate 2 (first | (refine flow_skip rfl (fun K hK => ?_); go_simp; (try go_bits); refine hK _ ?_; clear hK K) | (refine flow_quiet rfl rfl (fun K hK => ?_); apply Exists.intro; apply And.intro; (focus (intro w' hw'; have hc := (bcell hw').1; go_simp; (try go_bits); all_goals (first | exact rfl | exact ⟨rfl, hw'⟩))); go_simp; (try go_bits); refine hK _ ?_; clear hK K))
    (refine flow_quiet rfl rfl (fun K hK => ?_); apply Exists.intro; apply And.intro; (focus (intro w' hw'; have hc := (bcell hw').1; go_simp; (try go_bits); all_goals (first | exact rfl | exact ⟨rfl, hw'⟩))); go_simp; (try go_bits); refine hK _ ?_; clear hK K)
    refine flow_nil ?_
    intro w' hw'
    have hbF := bF.trans (hw'.mono (by omega))
    have hs' := hw'.size
    clear hE
    go_wp2
    have m9 := (hw'.block _ hz2).trans k9
    have m6 := (hw'.block (W.heap.size + 1) (by omega)).trans k6'
    have y9 : w'.cell? ⟨wa.heap.size + 1, 0, none⟩ = some (.int .i64 0) := by simp [World.cell?, m9]
    clear x1 x7 x8 y0 k8 k9 k5' k6' hw'
    refine wp_flowU (fun k => ([1, 0, 2, 1] : List Nat).getD k 1) (stR w' (W.heap.size + 1) (.cells #[.int .u64 0, .int .u64 0, .int .u64 0, .int .u64 0] 25) (.cells #[.int .u64 0, .int .u64 0, .int .u64 0, .int .u64 0] 25)) (fun _ => True) (false) (⟨Fr.drew (Fr.refl _ _), m6⟩) trivial (by kernel_rfl) (by kernel_rfl) ?_
    (refine flowU_readE rfl rfl (fun K hK => ?_); apply Exists.intro; apply And.intro; (focus (intro w' hR; have z9 := hR.fr.cell y9 (by omega) (by omega); clear hR; go_simp; (try go_bits); exact rfl)); go_simp; (try go_bits); refine hK _ ?_; clear hK K)
    (refine flowU_lateE rfl rfl (fun K hK => ?_); apply Exists.intro; apply And.intro; (focus (intro s0 w' hC hR; have z9 := hR.fr.cell y9 (by omega) (by omega); clear hR; go_simp; (try go_bits); exact rfl)); go_simp; (try go_bits); refine hK _ ?_; clear hK K)
    refine flowU_step (fun v s => v = undef ∧ s = true) (by decide) rfl ⟨undef, true, rfl, rfl⟩ (fun w' hR => ?_) (fun _ _ _ _ _ => trivial) (fun K hK v s2 hs2 => ?_)
    focus
      have hq := hR.now
      simp only [Bool.false_eq_true, if_false] at hq
      obtain ⟨q0, q1, q2, q3⟩ := cells4w hq
      have qf : ∀ j, w'.frozen? ⟨W.heap.size + 1, j, none⟩ = false := fun j => by simp [World.frozen?, hq]
      have hfr := hR.fr
      clear hR
      go_simp
      exact ⟨(((hfr.setCell (.inl rfl) _).setCell (.inl rfl) _).setCell (.inl rfl) _).setCell (.inl rfl) _, by simpa using store4 hq _ _ _ _⟩
    obtain ⟨rfl, rfl⟩ := hs2
    (go_simp; refine hK _ _ ?_; clear hK K)
    (refine flowU_readE rfl rfl (fun K hK => ?_); apply Exists.intro; apply And.intro; (focus (intro w' hR; have z9 := hR.fr.cell y9 (by omega) (by omega); clear hR; go_simp; (try go_bits); exact rfl)); go_simp; (try go_bits); refine hK _ ?_; clear hK K)
    refine flowU_nil ?_
    intro w2 hR
    have hq : w2.heap[W.heap.size + 1]? = some (.cells #[.int .u64 0, .int .u64 0, .int .u64 0, .int .u64 0] 25 (0, 0)) := hR.now
    obtain ⟨q0, q1, q2, q3⟩ := cells4w hq
    have bE : Below W.heap.size W w2 := hbF.trans (hR.fr.toBelow (by omega) (fun k hk => by omega))
    clear hR hq
    go_wp2
    rw [Exit.noGoto_ret]
    refine bodyPost_ret (by simp only [results, Tryd.results15]; go_simp; try rfl) rfl ⟨rfl, bE⟩
  · have hq : (rt.toList == er.toList) = false := by rw [beqS]; exact decide_eq_false h1
    simp only [if_neg h1]
    refine calls_FW (n := 9) ?_
    refine callsIn_of_wp_marks Tryd.func15 rfl trivial ?_ rfl
    simp only [Tryd.ntmps15, List.size_toArray, List.length_cons, List.length_nil, Nat.reduceAdd, Nat.reduceSub, Array.replicate_succ, Array.replicate_zero, List.push_toArray, List.append_toArray, List.nil_append, List.cons_append]
    gi_wp2
    refine wpIn_scope rfl ?_
    gi_wp2_with (gi_at_call 34; refine (callsIn_FW (cF _ _)).mono ?_; rintro e wa ⟨rfl, hb_wa⟩; have hc_wa := (bcell hb_wa).1; have hf_wa := (bcell hb_wa).2; have hz_wa : _ ≤ wa.heap.size := hb_wa.size; (try simp only [World.size_alloc, World.heap_drewN, World.size_setCell, heap_drew] at hc_wa hf_wa hz_wa); have hz_wa_W_0 : W.heap.size < wa.heap.size := (by omega); have hz_wa_W_1 : W.heap.size + 1 < wa.heap.size := (by omega))
    have b2 : Below W.heap.size W wa := (((Below.refl _ W).alloc (Nat.le_refl _) _).alloc (by simp) _).trans (hb_wa.mono (by simp; omega))
    have k5 := (hb_wa.block W.heap.size (by simp; omega)).trans ((Below.heap_alloc _ _ _ (by simp)).trans (heap_new (w := W) (o := .cells #[.int .u64 (lb k 0 : Nat), .int .u64 (lb k 1 : Nat), .int .u64 (lb k 2 : Nat), .int .u64 (lb k 3 : Nat)] 25) rfl))
    have k6 := (hb_wa.block (W.heap.size + 1) (by simp)).trans (heap_new (w := W.alloc (.cells #[.int .u64 (lb k 0 : Nat), .int .u64 (lb k 1 : Nat), .int .u64 (lb k 2 : Nat), .int .u64 (lb k 3 : Nat)] 25)) (o := .cells #[.int .u64 0, .int .u64 0, .int .u64 0, .int .u64 0] 25) (by simp))
    have k8 : ((wa.alloc (.cells #[.string ad, .bool true, .int .u64 no, .int .u64 (lb ba 0 : Nat), .int .u64 (lb ba 1 : Nat), .int .u64 (lb ba 2 : Nat), .int .u64 (lb ba 3 : Nat), .string rt, .string cd, .bool hs, .string co, .slice cp cn cc] 65)).alloc (.cells #[.int .i64 0] 29)).heap[wa.heap.size]? = _ := (Below.heap_alloc _ _ _ (by simp)).trans (heap_new rfl)
    have k9 : ((wa.alloc (.cells #[.string ad, .bool true, .int .u64 no, .int .u64 (lb ba 0 : Nat), .int .u64 (lb ba 1 : Nat), .int .u64 (lb ba 2 : Nat), .int .u64 (lb ba 3 : Nat), .string rt, .string cd, .bool hs, .string co, .slice cp cn cc] 65)).alloc (.cells #[.int .i64 0] 29)).heap[wa.heap.size + 1]? = _ := heap_new (by simp)
    have k5' : ((wa.alloc (.cells #[.string ad, .bool true, .int .u64 no, .int .u64 (lb ba 0 : Nat), .int .u64 (lb ba 1 : Nat), .int .u64 (lb ba 2 : Nat), .int .u64 (lb ba 3 : Nat), .string rt, .string cd, .bool hs, .string co, .slice cp cn cc] 65)).alloc (.cells #[.int .i64 0] 29)).heap[W.heap.size]? = _ := (Below.heap_alloc _ _ _ (by simp; omega)).trans ((Below.heap_alloc _ _ _ (by omega)).trans k5)
    have k6' : ((wa.alloc (.cells #[.string ad, .bool true, .int .u64 no, .int .u64 (lb ba 0 : Nat), .int .u64 (lb ba 1 : Nat), .int .u64 (lb ba 2 : Nat), .int .u64 (lb ba 3 : Nat), .string rt, .string cd, .bool hs, .string co, .slice cp cn cc] 65)).alloc (.cells #[.int .i64 0] 29)).heap[W.heap.size + 1]? = _ := (Below.heap_alloc _ _ _ (by simp; omega)).trans ((Below.heap_alloc _ _ _ (by omega)).trans k6)
    have bF : Below W.heap.size W ((wa.alloc (.cells #[.string ad, .bool true, .int .u64 no, .int .u64 (lb ba 0 : Nat), .int .u64 (lb ba 1 : Nat), .int .u64 (lb ba 2 : Nat), .int .u64 (lb ba 3 : Nat), .string rt, .string cd, .bool hs, .string co, .slice cp cn cc] 65)).alloc (.cells #[.int .i64 0] 29)) := (b2.alloc (by omega) _).alloc (by simp; omega) _
    have hz0 : ((wa.alloc (.cells #[.string ad, .bool true, .int .u64 no, .int .u64 (lb ba 0 : Nat), .int .u64 (lb ba 1 : Nat), .int .u64 (lb ba 2 : Nat), .int .u64 (lb ba 3 : Nat), .string rt, .string cd, .bool hs, .string co, .slice cp cn cc] 65)).alloc (.cells #[.int .i64 0] 29)).heap.size ≥ wa.heap.size + 1 + 1 := by simp
    have hK0 := hT.below bF hW
    clear hc_wa hf_wa hb_wa cF hT k5 k6 b2
    generalize ((wa.alloc (.cells #[.string ad, .bool true, .int .u64 no, .int .u64 (lb ba 0 : Nat), .int .u64 (lb ba 1 : Nat), .int .u64 (lb ba 2 : Nat), .int .u64 (lb ba 3 : Nat), .string rt, .string cd, .bool hs, .string co, .slice cp cn cc] 65)).alloc (.cells #[.int .i64 0] 29)) = w0 at *
    obtain ⟨x0, x1, x2, x3, x4, x5, x6, x7, x8, x9, x10, x11⟩ := cells12 k8
    have y0 : w0.cell? ⟨wa.heap.size + 1, 0, none⟩ = some (.int .i64 0) := by simp [World.cell?, k9]
    have hw0 : 3 ≤ w0.heap.size := by omega
    have hz1 : wa.heap.size < w0.heap.size := by omega
    have hz2 : wa.heap.size + 1 < w0.heap.size := by omega
    clear x0 x2 x3 x4 x5 x6 x9 x10 x11
    refine wpIn_flow (r := none) (fun k => ([1, 1, 1, 1, 1, 1, 1, 1, 1, 1, 1, 1, 1, 1, 1] : List Nat).getD k 1) (Below (w0.heap.size)) _ (Below.drew (Below.refl _ _)) (by kernel_rfl) (by kernel_rfl) ?_
    iterate 3 ((refine flow_quiet rfl rfl (fun K hK => ?_); apply Exists.intro; apply And.intro; (focus (intro w' hw'; have hc := (bcell hw').1; go_simp; (try go_bits); all_goals (first | exact rfl | exact ⟨rfl, hw'⟩))); go_simp; (try go_bits); refine hK _ ?_; clear hK K))
    iterate 3 (first | (refine flow_skip rfl (fun K hK => ?_); go_simp; (try go_bits); refine hK _ ?_; clear hK K) | (refine flow_quiet rfl rfl (fun K hK => ?_); apply Exists.intro; apply And.intro; (focus (intro w' hw'; have hc := (bcell hw').1; go_simp; (try go_bits); all_goals (first | exact rfl | exact ⟨rfl, hw'⟩))); go_simp; (try go_bits); refine hK _ ?_; clear hK K))
    iterate 2 ((refine flow_quiet rfl rfl (fun K hK => ?_); apply Exists.intro; apply And.intro; (focus (intro w' hw'; have hc := (bcell hw').1; go_simp; (try go_bits); all_goals (first | exact rfl | exact ⟨rfl, hw'⟩))); go_simp; (try go_bits); refine hK _ ?_; clear hK K))
    iterate 3 (first | (refine flow_skip rfl (fun K hK => ?_); go_simp; (try go_bits); refine hK _ ?_; clear hK K) | (refine flow_quiet rfl rfl (fun K hK => ?_); apply Exists.intro; apply And.intro; (focus (intro w' hw'; have hc := (bcell hw').1; go_simp; (try go_bits); all_goals (first | exact rfl | exact ⟨rfl, hw'⟩))); go_simp; (try go_bits); refine hK _ ?_; clear hK K))
    first | (refine flow_skip rfl (fun K hK => ?_); go_simp; (try go_bits); refine hK _ ?_; clear hK K) | (refine flow_quiet rfl rfl (fun K hK => ?_); apply Exists.intro; apply And.intro; (focus (intro w' hw'; have hc := (bcell hw').1; go_simp; (try go_bits); all_goals (go_at_call 35; with_reducible refine (hE _ (Nat.le_trans hw0 hw'.size) (hK0.below hw' hw0)).mono ?_; rintro e w2 ⟨rfl, hb⟩; exact ⟨rfl, hw'.trans (hb.mono (below_le hw' (by simp)))⟩))); go_simp; (try go_bits); refine hK _ ?_; clear hK K) | (refine flow_quiet rfl rfl (fun K hK => ?_); apply Exists.intro; apply And.intro; (focus (intro w' hw'; have hc := (bcell hw').1; go_simp; (try go_bits); all_goals (go_at_call 35; refine (hE _ (Nat.le_trans hw0 hw'.size) (hK0.below hw' hw0)).mono ?_; rintro e w2 ⟨rfl, hb⟩; exact ⟨rfl, hw'.trans (hb.mono (below_le hw' (by simp)))⟩))); go_simp; (try go_bits); refine hK _ ?_; clear hK K)
    iterate 2 (first | (refine flow_skip rfl (fun K hK => ?_); go_simp; (try go_bits); refine hK _ ?_; clear hK K) | (refine flow_quiet rfl rfl (fun K hK => ?_); apply Exists.intro; apply And.intro; (focus (intro w' hw'; have hc := (bcell hw').1; go_simp; (try go_bits); all_goals (first | exact rfl | exact ⟨rfl, hw'⟩))); go_simp; (try go_bits); refine hK _ ?_; clear hK K))
    (refine flow_quiet rfl rfl (fun K hK => ?_); apply Exists.intro; apply And.intro; (focus (intro w' hw'; have hc := (bcell hw').1; go_simp; (try go_bits); all_goals (first | exact rfl | exact ⟨rfl, hw'⟩))); go_simp; (try go_bits); refine hK _ ?_; clear hK K)
    refine flow_nil ?_
    intro w' hw'
    have hbF := bF.trans (hw'.mono (by omega))
    have hs' := hw'.size
    clear hE
    have m5 := (hw'.block _ (by omega)).trans k5'
    have m6 := (hw'.block (W.heap.size + 1) (by omega)).trans k6'
    have m8 := (hw'.block _ hz1).trans k8
    have m9 := (hw'.block _ hz2).trans k9
    clear x1 x7 x8 y0 k8 k9 k5' k6' hw' hK0 bF hw0
    have hzz : wa.heap.size + 2 ≤ w'.heap.size := by omega
    clear hz1 hz2 hs' hz0
    obtain ⟨x0, x1, x2, x3, x4, x5, x6, x7, x8, x9, x10, x11⟩ := cells12 m8
    obtain ⟨y0, y1, y2, y3⟩ := cells4w m5
    have z9 : w'.cell? ⟨wa.heap.size + 1, 0, none⟩ = some (.int .i64 0) := by simp [World.cell?, m9]
    have f9 : w'.frozen? ⟨wa.heap.size + 1, 0, none⟩ = false := by simp [World.frozen?, m9]
    have l9 : wa.heap.size + 1 < w'.heap.size := by omega
    have l8 : wa.heap.size < w'.heap.size := by omega
    gi_wp2
    refine wpIn_label ?_
    gi_wp2_with (gi_at_call 37; refine (callsIn_FW (cO _)).mono ?_; rintro e wb ⟨rfl, rfl⟩)
    have s1 : (((w'.setCell ⟨wa.heap.size + 1, 0, none⟩ (.int .i64 190)).alloc (.cells #[.int .u64 0, .int .u64 0, .int .u64 0, .int .u64 0] 25)).alloc (.cells #[.string ad, .bool true, .int .u64 no, .int .u64 (lb ba 0 : Nat), .int .u64 (lb ba 1 : Nat), .int .u64 (lb ba 2 : Nat), .int .u64 (lb ba 3 : Nat), .string rt, .string cd, .bool hs, .string co, .slice cp cn cc] 65)).heap.size = w'.heap.size + 1 + 1 := by simp
    have n5 : (((w'.setCell ⟨wa.heap.size + 1, 0, none⟩ (.int .i64 190)).alloc (.cells #[.int .u64 0, .int .u64 0, .int .u64 0, .int .u64 0] 25)).alloc (.cells #[.string ad, .bool true, .int .u64 no, .int .u64 (lb ba 0 : Nat), .int .u64 (lb ba 1 : Nat), .int .u64 (lb ba 2 : Nat), .int .u64 (lb ba 3 : Nat), .string rt, .string cd, .bool hs, .string co, .slice cp cn cc] 65)).heap[W.heap.size]? = _ := (Below.heap_alloc _ _ _ (by simp; omega)).trans ((Below.heap_alloc _ _ _ (by simp; omega)).trans ((Below.heap_setCell _ _ _ _ (by simp; omega)).trans m5))
    have n6 : (((w'.setCell ⟨wa.heap.size + 1, 0, none⟩ (.int .i64 190)).alloc (.cells #[.int .u64 0, .int .u64 0, .int .u64 0, .int .u64 0] 25)).alloc (.cells #[.string ad, .bool true, .int .u64 no, .int .u64 (lb ba 0 : Nat), .int .u64 (lb ba 1 : Nat), .int .u64 (lb ba 2 : Nat), .int .u64 (lb ba 3 : Nat), .string rt, .string cd, .bool hs, .string co, .slice cp cn cc] 65)).heap[W.heap.size + 1]? = _ := (Below.heap_alloc _ _ _ (by simp; omega)).trans ((Below.heap_alloc _ _ _ (by simp; omega)).trans ((Below.heap_setCell _ _ _ _ (by simp; omega)).trans m6))
    have n9 : (((w'.setCell ⟨wa.heap.size + 1, 0, none⟩ (.int .i64 190)).alloc (.cells #[.int .u64 0, .int .u64 0, .int .u64 0, .int .u64 0] 25)).alloc (.cells #[.string ad, .bool true, .int .u64 no, .int .u64 (lb ba 0 : Nat), .int .u64 (lb ba 1 : Nat), .int .u64 (lb ba 2 : Nat), .int .u64 (lb ba 3 : Nat), .string rt, .string cd, .bool hs, .string co, .slice cp cn cc] 65)).heap[wa.heap.size + 1]? = some (.cells #[.int .i64 190] 29 (0, 0)) := (Below.heap_alloc _ _ _ (by simp; omega)).trans ((Below.heap_alloc _ _ _ (by simp; omega)).trans (by simpa using store1 m9 0 (.int .i64 190)))
    have n10 : (((w'.setCell ⟨wa.heap.size + 1, 0, none⟩ (.int .i64 190)).alloc (.cells #[.int .u64 0, .int .u64 0, .int .u64 0, .int .u64 0] 25)).alloc (.cells #[.string ad, .bool true, .int .u64 no, .int .u64 (lb ba 0 : Nat), .int .u64 (lb ba 1 : Nat), .int .u64 (lb ba 2 : Nat), .int .u64 (lb ba 3 : Nat), .string rt, .string cd, .bool hs, .string co, .slice cp cn cc] 65)).heap[w'.heap.size]? = some (.cells #[.int .u64 0, .int .u64 0, .int .u64 0, .int .u64 0] 25 (0, 0)) := (Below.heap_alloc _ _ _ (by simp)).trans (heap_new (by simp))
    have n11 : (((w'.setCell ⟨wa.heap.size + 1, 0, none⟩ (.int .i64 190)).alloc (.cells #[.int .u64 0, .int .u64 0, .int .u64 0, .int .u64 0] 25)).alloc (.cells #[.string ad, .bool true, .int .u64 no, .int .u64 (lb ba 0 : Nat), .int .u64 (lb ba 1 : Nat), .int .u64 (lb ba 2 : Nat), .int .u64 (lb ba 3 : Nat), .string rt, .string cd, .bool hs, .string co, .slice cp cn cc] 65)).heap[w'.heap.size + 1]? = some (.cells #[.string ad, .bool true, .int .u64 no, .int .u64 (lb ba 0 : Nat), .int .u64 (lb ba 1 : Nat), .int .u64 (lb ba 2 : Nat), .int .u64 (lb ba 3 : Nat), .string rt, .string cd, .bool hs, .string co, .slice cp cn cc] 65 (0, 0)) := heap_new (by simp)
    have b1 : Below W.heap.size W (((w'.setCell ⟨wa.heap.size + 1, 0, none⟩ (.int .i64 190)).alloc (.cells #[.int .u64 0, .int .u64 0, .int .u64 0, .int .u64 0] 25)).alloc (.cells #[.string ad, .bool true, .int .u64 no, .int .u64 (lb ba 0 : Nat), .int .u64 (lb ba 1 : Nat), .int .u64 (lb ba 2 : Nat), .int .u64 (lb ba 3 : Nat), .string rt, .string cd, .bool hs, .string co, .slice cp cn cc] 65)) := ((hbF.setCell (by simp; omega) _).alloc (by simp; omega) _).alloc (by simp; omega) _
    clear hbF m5 m6 m8 m9 x0 x1 x2 x3 x4 x5 x6 x7 x8 x9 x10 x11 y0 y1 y2 y3 z9 f9 cO hq h1
    generalize (((w'.setCell ⟨wa.heap.size + 1, 0, none⟩ (.int .i64 190)).alloc (.cells #[.int .u64 0, .int .u64 0, .int .u64 0, .int .u64 0] 25)).alloc (.cells #[.string ad, .bool true, .int .u64 no, .int .u64 (lb ba 0 : Nat), .int .u64 (lb ba 1 : Nat), .int .u64 (lb ba 2 : Nat), .int .u64 (lb ba 3 : Nat), .string rt, .string cd, .bool hs, .string co, .slice cp cn cc] 65)) = w1 at *
    refine wpIn_rangeFunc_two (by omega) (gf := 58) (lb := #[.pointer (some ⟨w'.heap.size + 1, 0, none⟩)]) rfl trivial (enters_of Tryd.func58 (by kernel_rfl) rfl)
      cn 0 (fun j => #[W4 (cs.getD j (0, 0)).1, W4 (cs.getD j (0, 0)).2]) (fun _ => rfl) (fun _ _ => True) (orI w1 cs k) (orX w1 cs k w'.heap.size (wa.heap.size + 1)) (fun j X Y h hb => h.below hb) (fun j l X Y h hl ht => h.turned hl ht) (fun l X Y h hl ht => h.turned hl (by omega) (by omega) ht)
      (fun _ _ _ _ _ => trivial) (fun _ _ _ => trivial) (fun _ _ _ _ _ => trivial) ⟨Below.refl _ _, by simp⟩ ?hiter ?hround ?hdone ?hstop
    case hiter =>
      intro l J Jx X hJI hJb hY hJ0 hbX
      exact cI 8 (by omega) l _ J Jx X hJb hY (fun j Y hj => by
        have := (hJI j Y hj).bel.block (w'.heap.size + 1) (by omega)
        rw [n11] at this
        simp [World.cell?, this]) (fun j Y hj => hok.below (b1.trans ((hJI j Y hj).bel.mono (by have := b1.size; omega)))) hJ0
    case hround =>
      intro l j X hl hI hj
      have hXs := hI.bel.size
      have hcs : cs[j]? = some (cs.getD j (0, 0)) := by
        have hl2 := hok.len
        dsimp only at hl2
        rw [List.getD_eq_getElem?_getD, List.getElem?_eq_getElem (by omega)]
        rfl
      have hcq := hok.cw _ (List.mem_of_getElem? hcs)
      obtain ⟨hcq1, hcq2⟩ := hcq
      generalize cs.getD j (0, 0) = c at *
      obtain ⟨c1, c2⟩ := c
      dsimp only at *
      gi_wp2
      refine ⟨((Below.refl _ X).alloc (Nat.le_refl _) _).alloc (by simp) _, fun W2 ht => ?_⟩
      have hs2 : X.heap.size + 1 + 1 ≤ W2.heap.size := by
        obtain ⟨x1, x2, x3, x4, rfl⟩ := ht
        have := (grownBy_putObj' ((X.alloc (.cells #[.int .u64 (lb c1 0 : Nat), .int .u64 (lb c1 1 : Nat), .int .u64 (lb c1 2 : Nat), .int .u64 (lb c1 3 : Nat)] 25)).alloc (.cells #[.int .u64 (lb c2 0 : Nat), .int .u64 (lb c2 1 : Nat), .int .u64 (lb c2 2 : Nat), .int .u64 (lb c2 3 : Nat)] 25)) l x2).size
        simp only [World.size_alloc] at this
        exact this
      have g1 := ht.cells (j := X.heap.size) ((Below.heap_alloc _ _ _ (by simp)).trans (heap_new rfl)) rfl
      have g2 := ht.cells (j := X.heap.size + 1) (heap_new (by simp)) rfl
      have hB2 : Below w1.heap.size w1 W2 := below_turned ((hI.bel.alloc (by omega) _).alloc (by simp; omega) _) hl ht
      have hno := hI.no
      clear ht hI
      have p5 := (hB2.block (W.heap.size) (by omega)).trans n5
      have p9 := (hB2.block (wa.heap.size + 1) (by omega)).trans n9
      have p10 := (hB2.block (w'.heap.size) (by omega)).trans n10
      obtain ⟨u0, u1, u2, u3⟩ := cells4w g1
      obtain ⟨v0, v1, v2, v3⟩ := cells4w g2
      obtain ⟨y0, y1, y2, y3⟩ := cells4w p5
      obtain ⟨z0, z1, z2, z3⟩ := cells4w p10
      have e9 : W2.cell? ⟨wa.heap.size + 1, 0, none⟩ = some (.int .i64 190) := by simp [World.cell?, p9]
      have f9 : W2.frozen? ⟨wa.heap.size + 1, 0, none⟩ = false := by simp [World.frozen?, p9]
      have f10 : ∀ j, W2.frozen? ⟨w'.heap.size, j, none⟩ = false := fun j => by simp [World.frozen?, p10]
      by_cases he : c1 = k
      · subst he
        have hor := oriC_hit hno hcs rfl
        dsimp only at hor
        gi_wp2
        refine ⟨rfl, ⟨by simp, fun q o hq1 hq2 _ => ?_⟩, ?_, ?_, ?_, by rw [hor]⟩
        · exact (heap_set_ne (by omega)).trans ((heap_set_ne (by omega)).trans ((heap_set_ne (by omega)).trans ((heap_set_ne (by omega)).trans ((heap_set_ne (by omega)).trans hq2))))
        · exact ((((((Fr.refl _ _).below hB2).setCell (.inl (.inl rfl)) _).setCell (.inl (.inl rfl)) _).setCell (.inl (.inl rfl)) _).setCell (.inl (.inl rfl)) _).setCell (.inl (.inr rfl)) _
        · rw [hor]
          exact (heap_set_ne (by omega)).trans (by simpa [Value.cells] using store4 p10 (.int .u64 (lb c2 0 : Nat)) (.int .u64 (lb c2 1 : Nat)) (.int .u64 (lb c2 2 : Nat)) (.int .u64 (lb c2 3 : Nat)))
        · exact by simpa using store1 ((heap_set_ne (by omega)).trans ((heap_set_ne (by omega)).trans ((heap_set_ne (by omega)).trans ((heap_set_ne (by omega)).trans p9)))) 0 (.int .i64 0)
      · have hcmp : (((lb c1 0 : Nat) : Int) == ((lb k 0 : Nat) : Int) && (((lb c1 1 : Nat) : Int) == ((lb k 1 : Nat) : Int) && (((lb c1 2 : Nat) : Int) == ((lb k 2 : Nat) : Int) && ((lb c1 3 : Nat) : Int) == ((lb k 3 : Nat) : Int)))) = false := by
          rw [eqN hcq1 hk]
          exact decide_eq_false he
        gi_wp2
        refine ⟨⟨Nat.le_refl _, fun _ _ _ h _ => h⟩, trivial, hB2, take_no hno hcs he⟩
    case hdone =>
      intro D X hD hI hd
      have hXs := hI.bel.size
      have hno : oriC cs k = (0, 190) := oriC_none fun c hc => hI.no c (by
        have hl2 := hok.len
        dsimp only at hl2
        rw [List.take_of_length_le (by omega)]
        exact hc)
      have hB2 := hI.bel
      clear hI
      have p6 := (hB2.block (W.heap.size + 1) (by omega)).trans n6
      have p9 := (hB2.block (wa.heap.size + 1) (by omega)).trans n9
      have p10 := (hB2.block (w'.heap.size) (by omega)).trans n10
      obtain ⟨y0, y1, y2, y3⟩ := cells4w p10
      have y9 : X.cell? ⟨wa.heap.size + 1, 0, none⟩ = some (.int .i64 190) := by simp [World.cell?, p9]
      have hfr0 : Fr (fun j => (j = w'.heap.size ∨ j = wa.heap.size + 1) ∨ j = W.heap.size + 1) W X := ((Fr.refl _ W).below b1).below (hB2.mono (by omega))
      gi_wp2
      refine wpIn_flowU (r := none) (fun k => ([1, 0, 2, 1] : List Nat).getD k 1) (stR X (W.heap.size + 1) (.cells #[.int .u64 0, .int .u64 0, .int .u64 0, .int .u64 0] 25) (.cells #[.int .u64 0, .int .u64 0, .int .u64 0, .int .u64 0] 25)) (fun _ => True) (false) (⟨Fr.drew (Fr.refl _ _), p6⟩) trivial (by kernel_rfl) (by kernel_rfl) ?_
      (refine flowU_readE rfl rfl (fun K hK => ?_); apply Exists.intro; apply And.intro; (focus (intro w' hR; have z0 := hR.fr.cell y0 (by omega) (by omega); have z1 := hR.fr.cell y1 (by omega) (by omega); have z2 := hR.fr.cell y2 (by omega) (by omega); have z3 := hR.fr.cell y3 (by omega) (by omega); have z9 := hR.fr.cell y9 (by omega) (by omega); clear hR; go_simp; (try go_bits); exact rfl)); go_simp; (try go_bits); refine hK _ ?_; clear hK K)
      (refine flowU_lateE rfl rfl (fun K hK => ?_); apply Exists.intro; apply And.intro; (focus (intro s0 w' hC hR; have z0 := hR.fr.cell y0 (by omega) (by omega); have z1 := hR.fr.cell y1 (by omega) (by omega); have z2 := hR.fr.cell y2 (by omega) (by omega); have z3 := hR.fr.cell y3 (by omega) (by omega); have z9 := hR.fr.cell y9 (by omega) (by omega); clear hR; go_simp; (try go_bits); exact rfl)); go_simp; (try go_bits); refine hK _ ?_; clear hK K)
      refine flowU_step (fun v s => v = undef ∧ s = true) (by decide) rfl ⟨undef, true, rfl, rfl⟩ (fun w' hR => ?_) (fun _ _ _ _ _ => trivial) (fun K hK v s2 hs2 => ?_)
      focus
        have hq := hR.now
        simp only [Bool.false_eq_true, if_false] at hq
        obtain ⟨q0, q1, q2, q3⟩ := cells4w hq
        have qf : ∀ j, w'.frozen? ⟨W.heap.size + 1, j, none⟩ = false := fun j => by simp [World.frozen?, hq]
        have hfr := hR.fr
        clear hR
        go_simp
        exact ⟨(((hfr.setCell (.inl rfl) _).setCell (.inl rfl) _).setCell (.inl rfl) _).setCell (.inl rfl) _, by simpa using store4 hq _ _ _ _⟩
      obtain ⟨rfl, rfl⟩ := hs2
      (go_simp; refine hK _ _ ?_; clear hK K)
      (refine flowU_readE rfl rfl (fun K hK => ?_); apply Exists.intro; apply And.intro; (focus (intro w' hR; have z0 := hR.fr.cell y0 (by omega) (by omega); have z1 := hR.fr.cell y1 (by omega) (by omega); have z2 := hR.fr.cell y2 (by omega) (by omega); have z3 := hR.fr.cell y3 (by omega) (by omega); have z9 := hR.fr.cell y9 (by omega) (by omega); clear hR; go_simp; (try go_bits); exact rfl)); go_simp; (try go_bits); refine hK _ ?_; clear hK K)
      refine flowU_nil ?_
      intro X2 hR
      have hq : X2.heap[W.heap.size + 1]? = some (.cells #[.int .u64 0, .int .u64 0, .int .u64 0, .int .u64 0] 25 (0, 0)) := hR.now
      have hd2 := (hR.fr.block D (by have := (Array.getElem?_eq_some_iff.1 hd).1; omega) (by omega)).trans hd
      have hfr := hR.fr
      clear hR
      gi_wp2
      rw [Exit.noGoto_ret]
      refine ⟨by simp, .inl ⟨_, _, rfl, run_takeDeferred hd2, ?_⟩⟩
      have ht : recTurned D X2 (X2.putObj D (.deferred none)) := ⟨_, _, hd2, rfl, rfl⟩
      generalize X2.putObj D (.deferred none) = X3 at *
      have hq3 := (ht.other (j := W.heap.size + 1) (by omega)).trans hq
      obtain ⟨q0, q1, q2, q3⟩ := cells4w hq3
      refine ⟨.tuple #[.agg #[.int .u64 0, .int .u64 0, .int .u64 0, .int .u64 0], .int .i64 190], (by simp only [results, Tryd.results15]; go_simp; try rfl), (by rw [hno, W4_zero]), ?_⟩
      exact (hfr0.trans (hfr.mono fun j hj => .inr hj)).turned (by omega) ht |>.toBelow (by omega) (fun j hj => by rcases hj with h | h <;> omega)
    case hstop =>
      intro D X hD hI hd
      have hXs := hI.fr.size
      have hno : oriC cs k = ((oriC cs k).1, 0) := Prod.ext rfl hI.ok
      have p10 := hI.out
      have p9 := hI.err
      have p6 := (hI.fr.block (W.heap.size + 1) (by omega) (by omega)).trans n6
      have hfr0 : Fr (fun j => (j = w'.heap.size ∨ j = wa.heap.size + 1) ∨ j = W.heap.size + 1) W X := ((Fr.refl _ W).below b1).trans ⟨hI.fr.os, hI.fr.tape, hI.fr.output, hI.fr.size, fun j hj hn => hI.fr.block j (by have := b1.size; omega) (fun h => hn (.inl h))⟩
      clear hI
      have y9 : X.cell? ⟨wa.heap.size + 1, 0, none⟩ = some (.int .i64 0) := by simp [World.cell?, p9]
      generalize (oriC cs k).1 = v at *
      obtain ⟨y0, y1, y2, y3⟩ := cells4w p10
      gi_wp2
      refine wpIn_flowU (r := none) (fun k => ([1, 0, 2, 1] : List Nat).getD k 1) (stR X (W.heap.size + 1) (.cells #[.int .u64 0, .int .u64 0, .int .u64 0, .int .u64 0] 25) (.cells #[.int .u64 (lb v 0 : Nat), .int .u64 (lb v 1 : Nat), .int .u64 (lb v 2 : Nat), .int .u64 (lb v 3 : Nat)] 25)) (fun _ => True) (false) (⟨Fr.drew (Fr.refl _ _), p6⟩) trivial (by kernel_rfl) (by kernel_rfl) ?_
      (refine flowU_readE rfl rfl (fun K hK => ?_); apply Exists.intro; apply And.intro; (focus (intro w' hR; have z0 := hR.fr.cell y0 (by omega) (by omega); have z1 := hR.fr.cell y1 (by omega) (by omega); have z2 := hR.fr.cell y2 (by omega) (by omega); have z3 := hR.fr.cell y3 (by omega) (by omega); have z9 := hR.fr.cell y9 (by omega) (by omega); clear hR; go_simp; (try go_bits); exact rfl)); go_simp; (try go_bits); refine hK _ ?_; clear hK K)
      (refine flowU_lateE rfl rfl (fun K hK => ?_); apply Exists.intro; apply And.intro; (focus (intro s0 w' hC hR; have z0 := hR.fr.cell y0 (by omega) (by omega); have z1 := hR.fr.cell y1 (by omega) (by omega); have z2 := hR.fr.cell y2 (by omega) (by omega); have z3 := hR.fr.cell y3 (by omega) (by omega); have z9 := hR.fr.cell y9 (by omega) (by omega); clear hR; go_simp; (try go_bits); exact rfl)); go_simp; (try go_bits); refine hK _ ?_; clear hK K)
      refine flowU_step (fun v s => v = undef ∧ s = true) (by decide) rfl ⟨undef, true, rfl, rfl⟩ (fun w' hR => ?_) (fun _ _ _ _ _ => trivial) (fun K hK v s2 hs2 => ?_)
      focus
        have hq := hR.now
        simp only [Bool.false_eq_true, if_false] at hq
        obtain ⟨q0, q1, q2, q3⟩ := cells4w hq
        have qf : ∀ j, w'.frozen? ⟨W.heap.size + 1, j, none⟩ = false := fun j => by simp [World.frozen?, hq]
        have hfr := hR.fr
        clear hR
        go_simp
        exact ⟨(((hfr.setCell (.inl rfl) _).setCell (.inl rfl) _).setCell (.inl rfl) _).setCell (.inl rfl) _, by simpa using store4 hq _ _ _ _⟩
      obtain ⟨rfl, rfl⟩ := hs2
      (go_simp; refine hK _ _ ?_; clear hK K)
      (refine flowU_readE rfl rfl (fun K hK => ?_); apply Exists.intro; apply And.intro; (focus (intro w' hR; have z0 := hR.fr.cell y0 (by omega) (by omega); have z1 := hR.fr.cell y1 (by omega) (by omega); have z2 := hR.fr.cell y2 (by omega) (by omega); have z3 := hR.fr.cell y3 (by omega) (by omega); have z9 := hR.fr.cell y9 (by omega) (by omega); clear hR; go_simp; (try go_bits); exact rfl)); go_simp; (try go_bits); refine hK _ ?_; clear hK K)
      refine flowU_nil ?_
      intro X2 hR
      have hq : X2.heap[W.heap.size + 1]? = some (.cells #[.int .u64 (lb v 0 : Nat), .int .u64 (lb v 1 : Nat), .int .u64 (lb v 2 : Nat), .int .u64 (lb v 3 : Nat)] 25 (0, 0)) := hR.now
      have hd2 := (hR.fr.block D (by have := (Array.getElem?_eq_some_iff.1 hd).1; omega) (by omega)).trans hd
      have hfr := hR.fr
      clear hR
      gi_wp2
      rw [Exit.noGoto_ret]
      refine ⟨by simp, .inl ⟨_, _, rfl, run_takeDeferred hd2, ?_⟩⟩
      have ht : recTurned D X2 (X2.putObj D (.deferred none)) := ⟨_, _, hd2, rfl, rfl⟩
      generalize X2.putObj D (.deferred none) = X3 at *
      have hq3 := (ht.other (j := W.heap.size + 1) (by omega)).trans hq
      obtain ⟨q0, q1, q2, q3⟩ := cells4w hq3
      refine ⟨.tuple #[.agg #[.int .u64 (lb v 0 : Nat), .int .u64 (lb v 1 : Nat), .int .u64 (lb v 2 : Nat), .int .u64 (lb v 3 : Nat)], .int .i64 0], (by simp only [results, Tryd.results15]; go_simp; try rfl), (by rw [hno ]), ?_⟩
      exact (hfr0.trans (hfr.mono fun j hj => .inr hj)).turned (by omega) ht |>.toBelow (by omega) (fun j hj => by rcases hj with h | h <;> omega)

theorem Origin_S (h : SRep W F b N L R) (hW : 3 ≤ W.heap.size) (hT : KT W) (hL : ∀ K ∈ L, Kok W K) {a : ByteArray} {k : Nat} (hp : okP (a, k)) :
    Calls Tryd.prog 15 #[ptr (b + 6), .string a, W4 k] W fun e w' => e = .returned (.tuple #[W4 (oriN L a k).1, .int .i64 (oriN L a k).2]) ∧ Below W.heap.size W w' := by
  have bel : ∀ o1 o2, Below W.heap.size W ((W.alloc o1).alloc o2) := fun o1 o2 => ((Below.refl _ W).alloc (Nat.le_refl _) o1).alloc (by simp) o2
  cases hK : kfind L a with
  | none =>
    rw [show oriN L a k = (0, 190) by unfold oriN; rw [hK]]
    exact Origin_none a k W fun o1 o2 => find_none (h.below (bel o1 o2)) hp.1 hK
  | some K =>
    rw [show oriN L a k = oriK K k by unfold oriN; rw [hK]]
    have hok := hL K (List.mem_of_find?_eq_some hK)
    cases hth : K.th with
    | true => exact Origin_there hW hT a k hp.2 K hth hok fun o1 o2 => find_some (h.below (bel o1 o2)) hp.1 hK
    | false =>
      rw [show oriK K k = (0, 0) by unfold oriK; rw [if_pos (.inl hth)], W4_zero]
      obtain ⟨un, hC, _⟩ := h
      obtain ⟨lg, s1, _⟩ := hC.st
      exact Origin_empty s1 a K.kn _ _ _ _ hth fun W' e => by
        have := hC.m0.look2 keyT Tryd.underlying66 zeroKn a hp.1 W' e
        rw [hK] at this
        exact this
theorem Load_all (h : SRep W F b N L R) (hW : 3 ≤ W.heap.size) (hT : KT W) (hL : ∀ K ∈ L, Kok W K) {a : ByteArray} {k : Nat} (hp : okP (a, k)) :
    Calls Tryd.prog 14 #[ptr (b + 6), .string a, W4 k] W fun e w' => e = .returned (.tuple #[W4 (loaN L R a k).1, .int .i64 (loaN L R a k).2]) ∧ Below W.heap.size W w' :=
  Load_S h hp fun W' hb => Origin_S (h.below hb) (Nat.le_trans hW hb.size) (hT.below hb hW) (fun K hK => (hL K hK).below hb) hp
end
end Go.Proofs.YtcdjdnbdblpofaaDoor
