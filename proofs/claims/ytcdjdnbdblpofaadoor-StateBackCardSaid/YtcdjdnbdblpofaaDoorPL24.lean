/-
  Move: its contract. Conditions: the state is one; what is known is right.
-/
import Derived.Test.YtcdjdnbdblpofaaDoorPL23
import Derived.Test.YtcdjdnbdblpofaaDoorWS
namespace Go.Proofs.YtcdjdnbdblpofaaDoor
open Go.RowKit Go.Maps
attribute [local go_sem] leftBy leaves
set_option linter.unusedSimpArgs false
set_option linter.unusedVariables false


theorem balN_some {L : List Kw} {R : List Chg} {a : ByteArray} {K : Kw} (h : kfind L a = some K) : balN L R a = baF L R a := by unfold balN; rw [h]
/-- The balances behind taking n away from one. -/
theorem mvF_step {L : List Kw} {R : List Chg} {f t : ByteArray} {n : Nat} {Kf Kt : Kw} (hf : kfind L f = some Kf) (ht : kfind L t = some Kt) (a : ByteArray) :
    (if a = t then some (W4 (addN (if t = f then subN (baF L R f) n else baF L R t) n)) else if a = f then some (W4 (subN (baF L R f) n)) else (kfind L a).map fun _ => W4 (baF L R a)) = (kfind L a).map fun _ => W4 (baF L (.move f t n :: R) a) := by
  show _ = (kfind L a).map fun _ => W4 (mvF f t n (baF L R) a)
  unfold mvF
  dsimp only
  by_cases h1 : a = t
  · subst h1
    rw [if_pos rfl, if_pos rfl, ht]
    by_cases h2 : a = f
    · subst h2
      simp
    · simp [h2]
  · rw [if_neg h1, if_neg h1]
    by_cases h2 : a = f
    · subst h2
      rw [if_pos rfl, if_pos rfl, hf]
      rfl
    · rw [if_neg h2, if_neg h2]

section
variable {W : World} {F : Nat → Prop} {b N : Nat} {L : List Kw} {R : List Chg}

set_option maxRecDepth 100000 in
set_option maxHeartbeats 16000000 in
theorem Move_ok (h : SRep W F b N L R) (hL : ∀ K ∈ L, K.ba < Q256) {f t : ByteArray} {n : Nat} (hf : okT f) (ht : okT t) (hn : n < Q256) {Kf Kt : Kw} (hKf : kfind L f = some Kf) (hKt : kfind L t = some Kt) (hlt0 : ltB (baF L R f) n = false) (hRl : R.length ≤ 1000000) (hN : N ≤ 1000000) :
    Calls Tryd.prog 32 #[ptr (b + 6), .string f, .string t, W4 n] W (muPost W F b (N + 2) L (.move f t n :: R) (.int .i64 0)) := by
  have hfl := h.flt
  obtain ⟨x, hx⟩ : ∃ x, x = baF L R f := ⟨_, rfl⟩
  obtain ⟨y, hy⟩ : ∃ y, y = baF L R t := ⟨_, rfl⟩
  have hxl0 : x < Q256 := by rw [hx]; exact baF_lt hL R f
  have hyl0 : y < Q256 := by rw [hy]; exact baF_lt hL R t
  have cF := Lib.hid fun (w' : World) (hb : Below W.heap.size W w') => show Calls Tryd.prog 11 #[ptr (b + 6), .string f] w' fun e w2 => e = .returned (.tuple #[W4 x, .int .i64 0]) ∧ Below w'.heap.size w' w2 by
    have := Balance_S (h.below hb) hf
    rw [balN_some hKf, kerr_some hKf, ← hx] at this
    exact this
  have cT := Lib.hid fun (w' : World) (hb : Below W.heap.size W w') => show Calls Tryd.prog 11 #[ptr (b + 6), .string t] w' fun e w2 => e = .returned (.tuple #[W4 y, .int .i64 0]) ∧ Below w'.heap.size w' w2 by
    have := Balance_S (h.below hb) ht
    rw [balN_some hKt, kerr_some hKt, ← hy] at this
    exact this
  have cL := fun w' => show Calls Tryd.prog 53 #[.agg #[.int .u64 (lb x 0 : Nat), .int .u64 (lb x 1 : Nat), .int .u64 (lb x 2 : Nat), .int .u64 (lb x 3 : Nat)], .agg #[.int .u64 (lb n 0 : Nat), .int .u64 (lb n 1 : Nat), .int .u64 (lb n 2 : Nat), .int .u64 (lb n 3 : Nat)]] w' fun e w2 => e = .returned (.bool false) ∧ Below w'.heap.size w' w2 by
    have := Less_any x n hxl0 hn w'
    rw [hx, hlt0, ← hx] at this
    exact this
  have h' := h
  obtain ⟨un, hC, xs, hrow, hunF, hxs⟩ := h'
  obtain ⟨lg, s1, hrl, hlgF⟩ := hC.st
  obtain ⟨i0, hi, hz0, hz1, hz2⟩ := info_parts infoF
  have hxl := Lib.hid hxs.length
  have hxl2 : xs.length ≤ 1000000 := by rw [hxl.out]; exact hRl
  have hlt := s1.lt
  have bA := fun o1 o2 o3 o4 => ((((Below.refl _ W).alloc (Nat.le_refl _) o1).alloc (by simp) o2).alloc (by simp; omega) o3).alloc (by simp; omega) o4
  unfold ptr at *
  replace cF := cF.out
  replace cT := cT.out
  go_enter Tryd.func32, Tryd.ntmps32
  replace hx := Lib.hid hx
  replace hy := Lib.hid hy
  go_wp2_with (first | (go_at_call 11; (first | (with_reducible refine (cF _ (bA _ _ _ _)).mono ?_; rintro e wa ⟨rfl, hb_wa⟩; have hc_wa := (bcell hb_wa).1; have hf_wa := (bcell hb_wa).2; have hz_wa : _ ≤ wa.heap.size := hb_wa.size; (try simp only [World.size_alloc, World.heap_drewN, World.size_setCell, heap_drew] at hc_wa hf_wa hz_wa); have hz_wa_W_0 : W.heap.size < wa.heap.size := (by omega); have hz_wa_W_1 : W.heap.size + 1 < wa.heap.size := (by omega); have hz_wa_W_2 : W.heap.size + 1 + 1 < wa.heap.size := (by omega); have hz_wa_W_3 : W.heap.size + 1 + 1 + 1 < wa.heap.size := (by omega)) | (refine (cT _ (((bA _ _ _ _).trans (hb_wa.mono (by simp; omega))).alloc (by omega) _)).mono ?_; rintro e wb ⟨rfl, hb_wb⟩; have hc_wb := (bcell hb_wb).1; have hf_wb := (bcell hb_wb).2; have hz_wb : _ ≤ wb.heap.size := hb_wb.size; (try simp only [World.size_alloc, World.heap_drewN, World.size_setCell, heap_drew] at hc_wb hf_wb hz_wb); have hz_wb_wa_0 : wa.heap.size < wb.heap.size := (by omega); have hz_wb_W_0 : W.heap.size < wb.heap.size := (by omega); have hz_wb_W_1 : W.heap.size + 1 < wb.heap.size := (by omega); have hz_wb_W_2 : W.heap.size + 1 + 1 < wb.heap.size := (by omega); have hz_wb_W_3 : W.heap.size + 1 + 1 + 1 < wb.heap.size := (by omega)))) | (go_at_call 53; with_reducible refine (cL _).mono ?_; rintro e wc ⟨rfl, hb_wc⟩; have hc_wc := (bcell hb_wc).1; have hf_wc := (bcell hb_wc).2; have hz_wc : _ ≤ wc.heap.size := hb_wc.size; (try simp only [World.size_alloc, World.heap_drewN, World.size_setCell, heap_drew] at hc_wc hf_wc hz_wc); have hz_wc_wb_0 : wb.heap.size < wc.heap.size := (by omega); have hz_wc_wa_0 : wa.heap.size < wc.heap.size := (by omega); have hz_wc_W_0 : W.heap.size < wc.heap.size := (by omega); have hz_wc_W_1 : W.heap.size + 1 < wc.heap.size := (by omega); have hz_wc_W_2 : W.heap.size + 1 + 1 < wc.heap.size := (by omega); have hz_wc_W_3 : W.heap.size + 1 + 1 + 1 < wc.heap.size := (by omega)))
  have bc : Below (((((W.alloc (.cells #[.pointer (some ⟨b + 6, 0, none⟩)] 27)).alloc (.cells #[.string f] 9)).alloc (.cells #[.string t] 9)).alloc (.cells #[.int .u64 (lb n 0 : Nat), .int .u64 (lb n 1 : Nat), .int .u64 (lb n 2 : Nat), .int .u64 (lb n 3 : Nat)] 25))).heap.size (((((W.alloc (.cells #[.pointer (some ⟨b + 6, 0, none⟩)] 27)).alloc (.cells #[.string f] 9)).alloc (.cells #[.string t] 9)).alloc (.cells #[.int .u64 (lb n 0 : Nat), .int .u64 (lb n 1 : Nat), .int .u64 (lb n 2 : Nat), .int .u64 (lb n 3 : Nat)] 25))) wc := ((((hb_wa.alloc (by simp <;> omega) _).trans (hb_wb.mono (by simp <;> omega))).alloc (by simp <;> omega) _).trans (hb_wc.mono (by simp <;> omega)))
  have b1 : Below W.heap.size W wc := (bA _ _ _ _).trans (bc.mono (by simp <;> omega))
  have k4 : wc.heap[W.heap.size]? = _ := (bc.block _ (by simp <;> omega)).trans ((Below.heap_alloc _ _ _ (by simp <;> omega)).trans ((Below.heap_alloc _ _ _ (by simp <;> omega)).trans ((Below.heap_alloc _ _ _ (by simp)).trans (heap_new rfl))))
  have k5 : wc.heap[W.heap.size + 1]? = _ := (bc.block _ (by simp <;> omega)).trans ((Below.heap_alloc _ _ _ (by simp <;> omega)).trans ((Below.heap_alloc _ _ _ (by simp)).trans (heap_new (by simp))))
  have k6 : wc.heap[W.heap.size + 2]? = _ := (bc.block _ (by simp <;> omega)).trans ((Below.heap_alloc _ _ _ (by simp)).trans (heap_new (by simp)))
  have k7 : wc.heap[W.heap.size + 3]? = some (.cells #[.int .u64 (lb n 0 : Nat), .int .u64 (lb n 1 : Nat), .int .u64 (lb n 2 : Nat), .int .u64 (lb n 3 : Nat)] 25 (0, 0)) := (bc.block _ (by simp)).trans (heap_new (by simp))
  have z1 : W.heap.size + 4 ≤ wc.heap.size := by omega
  clear bc hb_wa hb_wb hb_wc hc_wa hc_wb hc_wc hf_wa hf_wb hf_wc hz_wa hz_wb hz_wc hz_wa_W_0 hz_wa_W_1 hz_wa_W_2 hz_wa_W_3 hz_wb_wa_0 hz_wb_W_0 hz_wb_W_1 hz_wb_W_2 hz_wb_W_3 hz_wc_wb_0 hz_wc_wa_0 hz_wc_W_0 hz_wc_W_1 hz_wc_W_2 hz_wc_W_3 cF cT cL bA
  have hgx : ((kfind L f).map fun _ => W4 (baF L R f)).getD (W4 0) = W4 x := by rw [hKf, hx.out]; rfl
  have m1 := hC.m1.at_block (b1.block _ (by omega))
  have hl1 := Lib.hid fun (w' : World) (hm : MV w' 9 Value.string okT (b + 1) N (W4 0) (fun a => (kfind L a).map fun _ => W4 (baF L R a))) => show (Instr.lookup 67 (.map (some (b + 1))) (.string f) false).run Tryd.prog w' = .ok (W4 x) w' by
    have := hm.look1 keyT Tryd.underlying67 zeroW f hf w' rfl
    rw [hgx] at this
    exact this
  have cS := Lib.hid fun (w' : World) => show Calls Tryd.prog 54 #[W4 x, .agg #[.int .u64 (lb n 0 : Nat), .int .u64 (lb n 1 : Nat), .int .u64 (lb n 2 : Nat), .int .u64 (lb n 3 : Nat)]] w' fun e w2 => e = .returned (W4 (subN x n)) ∧ Below w'.heap.size w' w2 from Sub_any x n hxl0 hn w'
  have s1c : stA wc b lg un := (b1.block _ hlt).trans s1
  obtain ⟨_, d1, _⟩ := s1c.cells
  have x4 : wc.cell? ⟨W.heap.size, 0, none⟩ = some (.pointer (some ⟨b + 6, 0, none⟩)) := by simp [World.cell?, k4]
  have x5 : wc.cell? ⟨W.heap.size + 1, 0, none⟩ = some (.string f) := by simp [World.cell?, k5]
  have x6 : wc.cell? ⟨W.heap.size + 2, 0, none⟩ = some (.string t) := by simp [World.cell?, k6]
  obtain ⟨y0, y1, y2', y3⟩ := cells4w k7
  refine wp_flowU (fun k => ([0, 0, 0, 0, 0, 1, 1, 1, 1, 1, 1, 1, 2, 4] : List Nat).getD k 1) (mpV wc 9 Value.string okT (b + 1) N (W4 0) (fun a => (kfind L a).map fun _ => W4 (baF L R a)) (fun c => if c = f then some (W4 (subN x n)) else (kfind L c).map fun _ => W4 (baF L R c))) (fun s => s = false) (false) (⟨Fr.drew (Fr.refl _ _), m1⟩) rfl (by kernel_rfl) (by kernel_rfl) ?_
  iterate 5 ((refine flowU_lateE rfl rfl (fun K hK => ?_); apply Exists.intro; apply And.intro; (focus (intro s0 w' hC hR; have hm := hR.now; (try rw [hC] at hm); (try rw [if_neg (by simp)] at hm); have u4 := hR.fr.cell x4 (by omega) (by omega); have u5 := hR.fr.cell x5 (by omega) (by omega); have u1 := hR.fr.cell d1 (by omega) (by omega); have t0 := hR.fr.cell y0 (by omega) (by omega); have t1 := hR.fr.cell y1 (by omega) (by omega); have t2 := hR.fr.cell y2' (by omega) (by omega); have t3 := hR.fr.cell y3 (by omega) (by omega); have hlw := hl1.out w' hm; clear hR hm; go_simp; (try go_bits); exact rfl)); go_simp; (try go_bits); refine hK _ ?_; clear hK K))
  iterate 7 ((refine flowU_readE rfl rfl (fun K hK => ?_); apply Exists.intro; apply And.intro; (focus (intro w' hR; have hm := hR.now; (try rw [hC] at hm); (try rw [if_neg (by simp)] at hm); have u4 := hR.fr.cell x4 (by omega) (by omega); have u5 := hR.fr.cell x5 (by omega) (by omega); have u1 := hR.fr.cell d1 (by omega) (by omega); have t0 := hR.fr.cell y0 (by omega) (by omega); have t1 := hR.fr.cell y1 (by omega) (by omega); have t2 := hR.fr.cell y2' (by omega) (by omega); have t3 := hR.fr.cell y3 (by omega) (by omega); have hlw := hl1.out w' hm; clear hR hm; go_simp; (try go_bits); exact rfl)); go_simp; (try go_bits); refine hK _ ?_; clear hK K))
  refine flowU_step (fun v s => v = W4 (subN x n) ∧ s = false) (by decide) rfl ⟨W4 (subN x n), false, rfl, rfl⟩ (fun w' hR => ?_) (fun _ _ _ _ h => h.2) (fun K hK v s2 hs2 => ?_)
  focus
    have hm := hR.now
    rw [if_neg (by simp)] at hm
    have hfr := hR.fr
    have cS := cS.out w'
    clear hR
    go_simp
    refine cS.mono ?_
    rintro e w2 ⟨rfl, hb⟩
    exact ⟨_, rfl, rfl, hfr.trans ⟨hb.os, hb.tape, hb.output, hb.size, fun j hj hT => hb.block j hj⟩, by rw [if_neg (by simp)]; exact hm.at_block (hb.block _ hm.lt)⟩
  obtain ⟨rfl, rfl⟩ := hs2
  (go_simp; refine hK _ _ ?_; clear hK K)
  refine flowU_step (fun v s => v = undef ∧ s = true) (by decide) rfl ⟨undef, true, rfl, rfl⟩ (fun w' hR => ?_) (fun h => absurd rfl h) (fun K hK v s2 hs2 => ?_)
  focus
    have hm := hR.now
    rw [if_neg (by simp)] at hm
    obtain ⟨w2, hrun, hm2, hgr⟩ := hm.put keyT Tryd.underlying67 (by unfold maxLen; omega) f hf (W4 (subN x n))
    have hfr := hR.fr
    clear hR hm
    go_simp
    exact ⟨hfr.trans ⟨hgr.os, hgr.tape, hgr.output, hgr.size, fun j hj hT => hgr.block j hj (by simpa using hT)⟩, by rw [if_pos rfl]; exact hm2⟩
  obtain ⟨rfl, rfl⟩ := hs2
  (go_simp; refine hK _ _ ?_; clear hK K)
  refine flowU_nil ?_
  intro W2 hR2
  have m2 := hR2.now
  rw [if_pos rfl] at m2
  have fr2 := hR2.fr
  have sz2 := fr2.size
  clear hR2 hl1 cS hgx m1 s1c
  obtain ⟨y2, hy2⟩ : ∃ y2, y2 = if t = f then subN x n else y := ⟨_, rfl⟩
  have hy2l : y2 < Q256 := by
    rw [hy2]
    split
    · exact subN_lt _ _
    · exact hyl0
  have hgy : (if t = f then some (W4 (subN x n)) else (kfind L t).map fun _ => W4 (baF L R t)).getD (W4 0) = W4 y2 := by
    rw [hy2]
    split
    · rfl
    · rw [hKt, hy.out]
      rfl
  replace hy2 := Lib.hid hy2
  have hl2 := Lib.hid fun (w' : World) (hm : MV w' 9 Value.string okT (b + 1) (N + 1) (W4 0) (fun c => if c = f then some (W4 (subN x n)) else (kfind L c).map fun _ => W4 (baF L R c))) => show (Instr.lookup 67 (.map (some (b + 1))) (.string t) false).run Tryd.prog w' = .ok (W4 y2) w' by
    have := hm.look1 keyT Tryd.underlying67 zeroW t ht w' rfl
    rw [hgy] at this
    exact this
  clear hgy
  have cA := Lib.hid fun (w' : World) => show Calls Tryd.prog 43 #[W4 y2, .agg #[.int .u64 (lb n 0 : Nat), .int .u64 (lb n 1 : Nat), .int .u64 (lb n 2 : Nat), .int .u64 (lb n 3 : Nat)]] w' fun e w2 => e = .returned (W4 (addN y2 n)) ∧ Below w'.heap.size w' w2 from Add_any y2 n hy2l hn w'
  have b2 : ∀ k, k < W.heap.size → k ≠ b + 1 → W2.heap[k]? = W.heap[k]? := fun k hk hn => (fr2.block k (by omega) hn).trans (b1.block k hk)
  have f2 : Fr F W W2 := ((Fr.refl _ W).below b1).trans ⟨fr2.os, fr2.tape, fr2.output, fr2.size, fun k hk hT => fr2.block k hk (fun e => hT (by rw [e]; exact hC.fb 1 (by omega)))⟩
  replace k4 := (fr2.block _ (by omega) (by omega)).trans k4
  replace k5 := (fr2.block _ (by omega) (by omega)).trans k5
  replace k6 := (fr2.block _ (by omega) (by omega)).trans k6
  replace k7 := (fr2.block _ (by omega) (by omega)).trans k7
  replace x4 := fr2.cell x4 (by omega) (by omega)
  replace x5 := fr2.cell x5 (by omega) (by omega)
  replace x6 := fr2.cell x6 (by omega) (by omega)
  replace y0 := fr2.cell y0 (by omega) (by omega)
  replace y1 := fr2.cell y1 (by omega) (by omega)
  replace y2' := fr2.cell y2' (by omega) (by omega)
  replace y3 := fr2.cell y3 (by omega) (by omega)
  replace d1 := fr2.cell d1 (by omega) (by omega)
  replace z1 : W.heap.size + 4 ≤ W2.heap.size := by omega
  clear fr2 b1 sz2
  go_wp2
  refine wp_flowU (fun k => ([0, 0, 0, 0, 0, 1, 1, 1, 1, 1, 1, 1, 2, 4] : List Nat).getD k 1) (mpV W2 9 Value.string okT (b + 1) (N + 1) (W4 0) (fun c => if c = f then some (W4 (subN x n)) else (kfind L c).map fun _ => W4 (baF L R c)) (fun c => if c = t then some (W4 (addN y2 n)) else if c = f then some (W4 (subN x n)) else (kfind L c).map fun _ => W4 (baF L R c))) (fun s => s = false) (false) (⟨Fr.drew (Fr.refl _ _), m2⟩) rfl (by kernel_rfl) (by kernel_rfl) ?_
  iterate 5 ((refine flowU_lateE rfl rfl (fun K hK => ?_); apply Exists.intro; apply And.intro; (focus (intro s0 w' hC hR; have hm := hR.now; (try rw [hC] at hm); (try rw [if_neg (by simp)] at hm); have u4 := hR.fr.cell x4 (by omega) (by omega); have u5 := hR.fr.cell x6 (by omega) (by omega); have u1 := hR.fr.cell d1 (by omega) (by omega); have t0 := hR.fr.cell y0 (by omega) (by omega); have t1 := hR.fr.cell y1 (by omega) (by omega); have t2 := hR.fr.cell y2' (by omega) (by omega); have t3 := hR.fr.cell y3 (by omega) (by omega); have hlw := hl2.out w' hm; clear hR hm; go_simp; (try go_bits); exact rfl)); go_simp; (try go_bits); refine hK _ ?_; clear hK K))
  iterate 7 ((refine flowU_readE rfl rfl (fun K hK => ?_); apply Exists.intro; apply And.intro; (focus (intro w' hR; have hm := hR.now; (try rw [hC] at hm); (try rw [if_neg (by simp)] at hm); have u4 := hR.fr.cell x4 (by omega) (by omega); have u5 := hR.fr.cell x6 (by omega) (by omega); have u1 := hR.fr.cell d1 (by omega) (by omega); have t0 := hR.fr.cell y0 (by omega) (by omega); have t1 := hR.fr.cell y1 (by omega) (by omega); have t2 := hR.fr.cell y2' (by omega) (by omega); have t3 := hR.fr.cell y3 (by omega) (by omega); have hlw := hl2.out w' hm; clear hR hm; go_simp; (try go_bits); exact rfl)); go_simp; (try go_bits); refine hK _ ?_; clear hK K))
  refine flowU_step (fun v s => v = W4 (addN y2 n) ∧ s = false) (by decide) rfl ⟨W4 (addN y2 n), false, rfl, rfl⟩ (fun w' hR => ?_) (fun _ _ _ _ h => h.2) (fun K hK v s2 hs2 => ?_)
  focus
    have hm := hR.now
    rw [if_neg (by simp)] at hm
    have hfr := hR.fr
    have cS := cA.out w'
    clear hR
    go_simp
    refine cS.mono ?_
    rintro e w2 ⟨rfl, hb⟩
    exact ⟨_, rfl, rfl, hfr.trans ⟨hb.os, hb.tape, hb.output, hb.size, fun j hj hT => hb.block j hj⟩, by rw [if_neg (by simp)]; exact hm.at_block (hb.block _ hm.lt)⟩
  obtain ⟨rfl, rfl⟩ := hs2
  (go_simp; refine hK _ _ ?_; clear hK K)
  refine flowU_step (fun v s => v = undef ∧ s = true) (by decide) rfl ⟨undef, true, rfl, rfl⟩ (fun w' hR => ?_) (fun h => absurd rfl h) (fun K hK v s2 hs2 => ?_)
  focus
    have hm := hR.now
    rw [if_neg (by simp)] at hm
    obtain ⟨w2, hrun, hm2, hgr⟩ := hm.put keyT Tryd.underlying67 (by unfold maxLen; omega) t ht (W4 (addN y2 n))
    have hfr := hR.fr
    clear hR hm
    go_simp
    exact ⟨hfr.trans ⟨hgr.os, hgr.tape, hgr.output, hgr.size, fun j hj hT => hgr.block j hj (by simpa using hT)⟩, by rw [if_pos rfl]; exact hm2⟩
  obtain ⟨rfl, rfl⟩ := hs2
  (go_simp; refine hK _ _ ?_; clear hK K)
  refine flowU_nil ?_
  intro W3 hR3
  have n4 := hR3.now
  rw [if_pos rfl] at n4
  have fr3 := hR3.fr
  clear hR3 hl2 cA m2
  have sz3 := fr3.size
  have b3 : ∀ k, k < W.heap.size → k ≠ b + 1 → W3.heap[k]? = W.heap[k]? := fun k hk hn => (fr3.block k (by omega) hn).trans (b2 k hk hn)
  replace k4 := (fr3.block _ (by omega) (by omega)).trans k4
  replace k5 := (fr3.block _ (by omega) (by omega)).trans k5
  replace k6 := (fr3.block _ (by omega) (by omega)).trans k6
  replace k7 := (fr3.block _ (by omega) (by omega)).trans k7
  replace x4 := fr3.cell x4 (by omega) (by omega)
  have f3 : Fr F W W3 := f2.trans ⟨fr3.os, fr3.tape, fr3.output, fr3.size, fun k hk hT => fr3.block k hk (fun e => hT (by rw [e]; exact hC.fb 1 (by omega)))⟩
  have s3 : stA W3 b lg un := (b3 _ hlt (by omega)).trans s1
  obtain ⟨es4, cl4, hm4⟩ := hC.m1.isMap
  have hrow3 : W3.ownsRow 0 1 1 un xs.length xs := by
    rw [hxl.out]
    refine ownsRow_same hrow fun k hk => b3 k (hfl k (hunF k hk)) ?_
    obtain ⟨cs, h3⟩ := row_block hrow hk
    exact map_ne h3 hm4
  have hC3 : CRep W3 (fun k => F k ∨ (W.heap.size ≤ k ∧ k < W3.heap.size)) b (N + 2) L (.move f t n :: R) un := by
    have hj := fun j (h1 : j ≤ 6) (h2 : j ≠ 1) => b3 (b + j) (by omega) (by omega)
    refine ⟨fun k hk => ?_, fun j hj => .inl (hC.fb j hj), ⟨lg, s3, ownsRow_same hrl fun k hk => ?_, fun k hk => .inl (hlgF k hk)⟩, (hC.m0.at_block (hj 0 (by omega) (by omega))).mono (by omega), ?_, (hC.m2.at_block (hj 2 (by omega) (by omega))).mono (by omega), (hC.m3.at_block (hj 3 (by omega) (by omega))).mono (by omega), (hC.m4.at_block (hj 4 (by omega) (by omega))).mono (by omega), (hC.m5.at_block (hj 5 (by omega) (by omega))).mono (by omega)⟩
    · rcases hk with hk | hk
      · have := hfl k hk
        omega
      · exact hk.2
    · obtain ⟨cs, h3⟩ := row_block hrl hk
      exact b3 k (hfl k (hlgF k hk)) (map_ne h3 hm4)
    · refine n4.ext fun c _ => ?_
      rw [hy2.out, hx.out, hy.out]
      exact mvF_step hKf hKt c
  have hx3 : unL W3 (fun k => F k ∨ (W.heap.size ≤ k ∧ k < W3.heap.size)) b R xs := hxs.stays (fun q cs t ht hq he => (b3 q (hfl q hq) (map_ne he hm4)).trans he) fun k hk => .inl hk
  have hv3 : unAt W3 (fun k => F k ∨ (W.heap.size ≤ k ∧ k < W3.heap.size)) b R (.move f t n) (.func (.func 55) #[] #[.pointer (some ⟨W.heap.size, 0, none⟩), .pointer (some ⟨W.heap.size + 2, 0, none⟩), .pointer (some ⟨W.heap.size + 3, 0, none⟩), .pointer (some ⟨W.heap.size + 1, 0, none⟩)]) :=
    ⟨W.heap.size, W.heap.size + 2, W.heap.size + 3, W.heap.size + 1, rfl, ⟨.inr ⟨by omega, by omega⟩, k4⟩, ⟨.inr ⟨by omega, by omega⟩, k6⟩, ⟨.inr ⟨by omega, by omega⟩, k7⟩, ⟨.inr ⟨by omega, by omega⟩, k5⟩⟩
  have hT2 : ¬ (un.ownBlock = some W.heap.size ∨ W.heap.size = b + 6) := fun h => by
    rcases h with h | h
    · have := hfl _ (hunF _ h)
      omega
    · omega
  have hCb := hC.fb 6 (by omega)
  clear n4 d1 x5 x6 y0 y1 y2' y3 hC hxs hrow b2 f2 hrl hx hy hy2 k4 k5 k6 k7
  go_wp2
  refine wp_flowU (fun k => ([0, 0, 0, 0, 0, 1, 2, 2, 1, 1, 4] : List Nat).getD k 1) (puR W3 b lg un xs (.func (.func 55) #[] #[.pointer (some ⟨W.heap.size, 0, none⟩), .pointer (some ⟨W.heap.size + 2, 0, none⟩), .pointer (some ⟨W.heap.size + 3, 0, none⟩), .pointer (some ⟨W.heap.size + 1, 0, none⟩)])) (fun s => s.st ≤ 2) (⟨0, 0, undef⟩) (⟨Fr.drew (Fr.refl _ _), s3, fun _ => hrow3, fun h => (by cases h), fun h => (by simp at h)⟩) (by decide) (by kernel_rfl) (by kernel_rfl) ?_
  iterate 5 ((refine flowU_lateE rfl rfl (fun K hK => ?_); apply Exists.intro; apply And.intro; (focus (intro s0 w' hC hR; have hq := hR.st; rw [if_pos (by first | exact hC | simp)] at hq; obtain ⟨_, _, _, _, _, _, _, e7, _⟩ := hq.cells; have y4 := hR.fr.cell x4 hT2 (by omega); clear hq hR; go_simp; (try go_bits); exact rfl)); go_simp; (try go_bits); refine hK _ ?_; clear hK K))
  (refine flowU_readE rfl rfl (fun K hK => ?_); apply Exists.intro; apply And.intro; (focus (intro w' hR; have hq := hR.st; rw [if_pos (by first | exact hC | simp)] at hq; obtain ⟨_, _, _, _, _, _, _, e7, _⟩ := hq.cells; have y4 := hR.fr.cell x4 hT2 (by omega); clear hq hR; go_simp; (try go_bits); exact rfl)); go_simp; (try go_bits); refine hK _ ?_; clear hK K)
  refine flowU_step puPB (by decide) rfl ⟨.slice (some ⟨0, 0, none⟩) 1 1, _, 0, rfl, rfl⟩ (fun w' hR => ?_) (fun _ _ v s2 h => (by obtain ⟨g, _, rfl⟩ := h; exact (by decide : (1 : Nat) ≤ 2))) (fun K hK v s2 hs2 => ?_)
  focus
    have hst' := hR.st
    have hlt' := (Array.getElem?_eq_some_iff.1 (show w'.heap[b + 6]? = _ from hst')).1
    have hfr := hR.fr
    have hro := hR.row (Nat.zero_le _)
    clear hR
    go_simp
    exact ⟨⟨1, w'.heap.size, undef⟩, ⟨_, rfl, rfl⟩, hfr.alloc _, (Below.heap_alloc _ _ _ hlt').trans hst', fun _ => hro.alloc _, fun _ => ⟨hfr.size, heap_new rfl⟩, fun h => (by simp at h)⟩
  obtain ⟨g, rfl, rfl⟩ := hs2
  (go_simp; refine hK _ _ ?_; clear hK K)
  refine flowU_step (puPA (xs.length + 1) g) (by decide) rfl ⟨_, _, 0, 0, rfl, rfl⟩ (fun w' hR => ?_) (fun _ _ v s2 h => (by obtain ⟨_, _, _, rfl⟩ := h; exact (by decide : (2 : Nat) ≤ 2))) (fun K hK v s2 hs2 => ?_)
  focus
    have hst' := hR.st
    have hlt' := (Array.getElem?_eq_some_iff.1 (show w'.heap[b + 6]? = _ from hst')).1
    obtain ⟨hg1, hg2⟩ := hR.one rfl
    have hro := hR.row (Nat.le_refl _)
    have hfr := hR.fr
    clear hR
    have hgc : w'.cell? ⟨g, 0, none⟩ = some (.func (.func 55) #[] #[.pointer (some ⟨W.heap.size, 0, none⟩), .pointer (some ⟨W.heap.size + 2, 0, none⟩), .pointer (some ⟨W.heap.size + 3, 0, none⟩), .pointer (some ⟨W.heap.size + 1, 0, none⟩)]) := by
      have hg3 : w'.heap[g]? = _ := hg2
      simp [World.cell?, hg3]
    obtain ⟨v', w2, hr, hown', hgrow, _, hloc⟩ := run_append_own_at (P := Tryd.prog) w' 0 71 71 1 i0 .nilFunc 1 8 Tryd.underlying71 hi hz0 hz1 hz2 rfl (by decide) un xs.length xs hro ⟨g, 0, none⟩ 1 1 [.func (.func 55) #[] #[.pointer (some ⟨W.heap.size, 0, none⟩), .pointer (some ⟨W.heap.size + 2, 0, none⟩), .pointer (some ⟨W.heap.size + 3, 0, none⟩), .pointer (some ⟨W.heap.size + 1, 0, none⟩)]] rfl
      (fun j u hj => by
        cases j with
        | zero => simp at hj; subst hj; simpa [Addr.add] using hgc
        | succ j => simp at hj) (by simp [Value.oneCell']) (by unfold maxLen; omega) (by omega) (Nat.zero_le _)
    rw [append_exec (P := Tryd.prog) rfl rfl rfl hr]
    have hne : un.ownBlock ≠ some (b + 6) := fun e => by
      obtain ⟨cs, h3⟩ := row_block hro e
      have h6 : w'.heap[b + 6]? = _ := hst'
      rw [h3] at h6
      injection h6 with h6
      injection h6 with _ h6
      exact absurd h6 (by decide)
    obtain ⟨q, cap, rfl⟩ : ∃ q cap, v' = .slice (some ⟨q, 0, none⟩) (xs.length + 1) cap := by
      rcases hown'.2 with ⟨_, h0⟩ | ⟨q, cap, cur, h0, _⟩
      · simp at h0
      · exact ⟨q, cap, h0⟩
    refine ⟨⟨2, g, _⟩, ⟨q, cap, rfl, rfl⟩, hfr.trans ⟨hgrow.os, hgrow.tape, hgrow.output, hgrow.size, fun k hk hT => hgrow.block k hk fun e => hT (.inl e.symm)⟩, (hgrow.block _ hlt' (fun e => hne e.symm)).trans hst', fun h => (by simp at h), fun h => (by cases h), fun _ => ⟨hown', ?_⟩⟩
    rcases hloc with h | h
    · exact .inl h
    · exact .inr ⟨_, h, hfr.size⟩
  obtain ⟨q, cap, rfl, rfl⟩ := hs2
  (go_simp; refine hK _ _ ?_; clear hK K)
  iterate 2 ((refine flowU_readE rfl rfl (fun K hK => ?_); apply Exists.intro; apply And.intro; (focus (intro w' hR; have hq := hR.st; rw [if_pos (by first | exact hC | simp)] at hq; obtain ⟨_, _, _, _, _, _, _, e7, _⟩ := hq.cells; have y4 := hR.fr.cell x4 hT2 (by omega); clear hq hR; go_simp; (try go_bits); exact rfl)); go_simp; (try go_bits); refine hK _ ?_; clear hK K))
  refine flowU_step (puPC g (Value.slice (some ⟨q, 0, none⟩) (xs.length + 1) cap)) (by decide) rfl ⟨undef, _, rfl, rfl⟩ (fun w' hR => ?_) (fun h => absurd rfl h) (fun K hK v s2 hs2 => ?_)
  focus
    have hst' := hR.st
    rw [if_pos (by simp)] at hst'
    have hlt' := (Array.getElem?_eq_some_iff.1 (show w'.heap[b + 6]? = _ from hst')).1
    obtain ⟨_, _, _, _, _, _, _, d7, ff⟩ := hst'.cells
    have f7 := ff 7
    obtain ⟨n1, n2⟩ := hR.new (Nat.le_refl _)
    have hfr := hR.fr
    clear hR ff
    dsimp only at n1 n2
    have hne : ((Value.slice (some ⟨q, 0, none⟩) (xs.length + 1) cap)).ownBlock ≠ some (b + 6) := fun e => by
      obtain ⟨cs, h3⟩ := row_block n1 e
      have h6 : w'.heap[b + 6]? = _ := hst'
      rw [h3] at h6
      injection h6 with h6
      injection h6 with _ h6
      exact absurd h6 (by decide)
    go_simp
    exact ⟨⟨3, g, (Value.slice (some ⟨q, 0, none⟩) (xs.length + 1) cap)⟩, ⟨rfl, rfl⟩, hfr.setCell (.inl (.inr rfl)) _, hst'.set _, fun h => (by simp at h), fun h => (by simp at h), fun _ => ⟨ownsRow_same n1 fun k hk => heap_set_ne (fun e => hne (e ▸ hk)), n2⟩⟩
  obtain ⟨rfl, rfl⟩ := hs2
  (go_simp; refine hK _ _ ?_; clear hK K)
  refine flowU_nil ?_
  intro W4' hR4
  have fr4 := hR4.fr
  have st4 := hR4.st
  rw [if_neg (by simp)] at st4
  dsimp only at st4
  obtain ⟨ro4, at4⟩ := hR4.new (by simp)
  clear hR4
  have sz4 := fr4.size
  have f4 : Fr F W W4' := f3.trans ⟨fr4.os, fr4.tape, fr4.output, fr4.size, fun k hk hT => fr4.block k hk (fun e => hT (by
    rcases e with e | e
    · exact hunF k e
    · rw [e]; exact hCb))⟩
  have fin := push_done (F' := fun k => F k ∨ (W.heap.size ≤ k ∧ k < W4'.heap.size)) hC3 s3 hrow3 (fun k hk => .inl (hunF k hk)) hx3 hv3 fr4 st4 ro4 at4 (fun k hk => by
    rcases hk with hk | hk
    · exact .inl hk
    · exact .inr ⟨hk.1, Nat.lt_of_lt_of_le hk.2 sz4⟩) (fun k h1 h2 => .inr ⟨by omega, h2⟩) (fun k hk => by
    rcases hk with hk | hk
    · have := hfl k hk
      omega
    · exact hk.2)
  clear hC3 hrow3 hx3 hv3 ro4 st4 at4 fr4
  go_wp2
  go_ret
  exact ⟨rfl, _, fin, f4, fun k hk => .inl hk, fun k hk => hk.imp id (fun h => h.1)⟩
set_option maxRecDepth 100000 in
set_option maxHeartbeats 16000000 in
theorem Move_poor (h : SRep W F b N L R) (hL : ∀ K ∈ L, K.ba < Q256) {f t : ByteArray} {n : Nat} (hf : okT f) (ht : okT t) (hn : n < Q256) {Kf Kt : Kw} (hKf : kfind L f = some Kf) (hKt : kfind L t = some Kt) (hlt0 : ltB (baF L R f) n = true) :
    Calls Tryd.prog 32 #[ptr (b + 6), .string f, .string t, W4 n] W fun e w' => e = .returned (.int .i64 191) ∧ Below W.heap.size W w' := by
  obtain ⟨x, hx⟩ : ∃ x, x = baF L R f := ⟨_, rfl⟩
  have hxl0 : x < Q256 := by rw [hx]; exact baF_lt hL R f
  obtain ⟨y, hy⟩ : ∃ y, y = baF L R t := ⟨_, rfl⟩
  have cF := Lib.hid fun (w' : World) (hb : Below W.heap.size W w') => show Calls Tryd.prog 11 #[ptr (b + 6), .string f] w' fun e w2 => e = .returned (.tuple #[W4 x, .int .i64 0]) ∧ Below w'.heap.size w' w2 by
    have := Balance_S (h.below hb) hf
    rw [balN_some hKf, kerr_some hKf, ← hx] at this
    exact this
  have cT := Lib.hid fun (w' : World) (hb : Below W.heap.size W w') => show Calls Tryd.prog 11 #[ptr (b + 6), .string t] w' fun e w2 => e = .returned (.tuple #[W4 y, .int .i64 0]) ∧ Below w'.heap.size w' w2 by
    have := Balance_S (h.below hb) ht
    rw [balN_some hKt, kerr_some hKt, ← hy] at this
    exact this
  have cL := fun w' => show Calls Tryd.prog 53 #[.agg #[.int .u64 (lb x 0 : Nat), .int .u64 (lb x 1 : Nat), .int .u64 (lb x 2 : Nat), .int .u64 (lb x 3 : Nat)], .agg #[.int .u64 (lb n 0 : Nat), .int .u64 (lb n 1 : Nat), .int .u64 (lb n 2 : Nat), .int .u64 (lb n 3 : Nat)]] w' fun e w2 => e = .returned (.bool true) ∧ Below w'.heap.size w' w2 by
    have := Less_any x n hxl0 hn w'
    rw [hx, hlt0, ← hx] at this
    exact this
  have bA := fun o1 o2 o3 o4 => ((((Below.refl _ W).alloc (Nat.le_refl _) o1).alloc (by simp) o2).alloc (by simp; omega) o3).alloc (by simp; omega) o4
  unfold ptr at *
  replace cF := cF.out
  replace cT := cT.out
  clear h hL hKf hKt hlt0 hx hy
  go_enter Tryd.func32, Tryd.ntmps32
  go_wp2_with (first | (go_at_call 11; (first | (with_reducible refine (cF _ (bA _ _ _ _)).mono ?_; rintro e wa ⟨rfl, hb_wa⟩; have hc_wa := (bcell hb_wa).1; have hf_wa := (bcell hb_wa).2; have hz_wa : _ ≤ wa.heap.size := hb_wa.size; (try simp only [World.size_alloc, World.heap_drewN, World.size_setCell, heap_drew] at hc_wa hf_wa hz_wa); have hz_wa_W_0 : W.heap.size < wa.heap.size := (by omega); have hz_wa_W_1 : W.heap.size + 1 < wa.heap.size := (by omega); have hz_wa_W_2 : W.heap.size + 1 + 1 < wa.heap.size := (by omega); have hz_wa_W_3 : W.heap.size + 1 + 1 + 1 < wa.heap.size := (by omega)) | (refine (cT _ (((bA _ _ _ _).trans (hb_wa.mono (by simp; omega))).alloc (by omega) _)).mono ?_; rintro e wb ⟨rfl, hb_wb⟩; have hc_wb := (bcell hb_wb).1; have hf_wb := (bcell hb_wb).2; have hz_wb : _ ≤ wb.heap.size := hb_wb.size; (try simp only [World.size_alloc, World.heap_drewN, World.size_setCell, heap_drew] at hc_wb hf_wb hz_wb); have hz_wb_wa_0 : wa.heap.size < wb.heap.size := (by omega); have hz_wb_W_0 : W.heap.size < wb.heap.size := (by omega); have hz_wb_W_1 : W.heap.size + 1 < wb.heap.size := (by omega); have hz_wb_W_2 : W.heap.size + 1 + 1 < wb.heap.size := (by omega); have hz_wb_W_3 : W.heap.size + 1 + 1 + 1 < wb.heap.size := (by omega)))) | (go_at_call 53; with_reducible refine (cL _).mono ?_; rintro e wc ⟨rfl, hb_wc⟩; have hc_wc := (bcell hb_wc).1; have hf_wc := (bcell hb_wc).2; have hz_wc : _ ≤ wc.heap.size := hb_wc.size; (try simp only [World.size_alloc, World.heap_drewN, World.size_setCell, heap_drew] at hc_wc hf_wc hz_wc); have hz_wc_wb_0 : wb.heap.size < wc.heap.size := (by omega); have hz_wc_wa_0 : wa.heap.size < wc.heap.size := (by omega); have hz_wc_W_0 : W.heap.size < wc.heap.size := (by omega); have hz_wc_W_1 : W.heap.size + 1 < wc.heap.size := (by omega); have hz_wc_W_2 : W.heap.size + 1 + 1 < wc.heap.size := (by omega); have hz_wc_W_3 : W.heap.size + 1 + 1 + 1 < wc.heap.size := (by omega)))
  go_ret
  exact ⟨rfl, ((((((bA _ _ _ _).trans (hb_wa.mono (by simp <;> omega))).alloc (by omega) _).trans (hb_wb.mono (by simp <;> omega))).alloc (by omega) _).trans (hb_wc.mono (by simp <;> omega)))⟩

set_option maxRecDepth 100000 in
set_option maxHeartbeats 16000000 in
theorem Move_no (h : SRep W F b N L R) {f t : ByteArray} (n : Nat) (hf : okT f) (ht : okT t) (hK : kfind L f = none ∨ kfind L t = none) :
    Calls Tryd.prog 32 #[ptr (b + 6), .string f, .string t, W4 n] W fun e w' => e = .returned (.int .i64 190) ∧ Below W.heap.size W w' := by
  have cF := fun (w' : World) (hb : Below W.heap.size W w') => Balance_S (h.below hb) hf
  have cT := fun (w' : World) (hb : Below W.heap.size W w') => Balance_S (h.below hb) ht
  have hk : (kerr L f = 190 ∧ kerr L t = 0) ∨ (kerr L f = 0 ∧ kerr L t = 190) ∨ (kerr L f = 190 ∧ kerr L t = 190) := by
    unfold kerr
    cases h1 : kfind L f <;> cases h2 : kfind L t <;> simp_all
  have bA := fun o1 o2 o3 o4 => ((((Below.refl _ W).alloc (Nat.le_refl _) o1).alloc (by simp) o2).alloc (by simp; omega) o3).alloc (by simp; omega) o4
  generalize balN L R f = x at *
  generalize balN L R t = y at *
  generalize kerr L f = ef at *
  generalize kerr L t = et at *
  clear h hK
  unfold ptr at *
  rcases hk with ⟨rfl, rfl⟩ | ⟨rfl, rfl⟩ | ⟨rfl, rfl⟩
  · skip
    go_enter Tryd.func32, Tryd.ntmps32
    go_wp2_with (go_at_call 11; (first | (with_reducible refine (cF _ (bA _ _ _ _)).mono ?_; rintro e wa ⟨rfl, hb_wa⟩; have hc_wa := (bcell hb_wa).1; have hf_wa := (bcell hb_wa).2; have hz_wa : _ ≤ wa.heap.size := hb_wa.size; (try simp only [World.size_alloc, World.heap_drewN, World.size_setCell, heap_drew] at hc_wa hf_wa hz_wa); have hz_wa_W_0 : W.heap.size < wa.heap.size := (by omega); have hz_wa_W_1 : W.heap.size + 1 < wa.heap.size := (by omega); have hz_wa_W_2 : W.heap.size + 1 + 1 < wa.heap.size := (by omega); have hz_wa_W_3 : W.heap.size + 1 + 1 + 1 < wa.heap.size := (by omega)) | (refine (cT _ (((bA _ _ _ _).trans (hb_wa.mono (by simp; omega))).alloc (by omega) _)).mono ?_; rintro e wb ⟨rfl, hb_wb⟩; have hc_wb := (bcell hb_wb).1; have hf_wb := (bcell hb_wb).2; have hz_wb : _ ≤ wb.heap.size := hb_wb.size; (try simp only [World.size_alloc, World.heap_drewN, World.size_setCell, heap_drew] at hc_wb hf_wb hz_wb); have hz_wb_wa_0 : wa.heap.size < wb.heap.size := (by omega); have hz_wb_W_0 : W.heap.size < wb.heap.size := (by omega); have hz_wb_W_1 : W.heap.size + 1 < wb.heap.size := (by omega); have hz_wb_W_2 : W.heap.size + 1 + 1 < wb.heap.size := (by omega); have hz_wb_W_3 : W.heap.size + 1 + 1 + 1 < wb.heap.size := (by omega))))
    go_ret
    exact ⟨rfl, (((((bA _ _ _ _).trans (hb_wa.mono (by simp <;> omega))).alloc (by omega) _).trans (hb_wb.mono (by simp <;> omega))).alloc (by omega) _)⟩
  · skip
    go_enter Tryd.func32, Tryd.ntmps32
    go_wp2_with (go_at_call 11; (first | (with_reducible refine (cF _ (bA _ _ _ _)).mono ?_; rintro e wa ⟨rfl, hb_wa⟩; have hc_wa := (bcell hb_wa).1; have hf_wa := (bcell hb_wa).2; have hz_wa : _ ≤ wa.heap.size := hb_wa.size; (try simp only [World.size_alloc, World.heap_drewN, World.size_setCell, heap_drew] at hc_wa hf_wa hz_wa); have hz_wa_W_0 : W.heap.size < wa.heap.size := (by omega); have hz_wa_W_1 : W.heap.size + 1 < wa.heap.size := (by omega); have hz_wa_W_2 : W.heap.size + 1 + 1 < wa.heap.size := (by omega); have hz_wa_W_3 : W.heap.size + 1 + 1 + 1 < wa.heap.size := (by omega)) | (refine (cT _ (((bA _ _ _ _).trans (hb_wa.mono (by simp; omega))).alloc (by omega) _)).mono ?_; rintro e wb ⟨rfl, hb_wb⟩; have hc_wb := (bcell hb_wb).1; have hf_wb := (bcell hb_wb).2; have hz_wb : _ ≤ wb.heap.size := hb_wb.size; (try simp only [World.size_alloc, World.heap_drewN, World.size_setCell, heap_drew] at hc_wb hf_wb hz_wb); have hz_wb_wa_0 : wa.heap.size < wb.heap.size := (by omega); have hz_wb_W_0 : W.heap.size < wb.heap.size := (by omega); have hz_wb_W_1 : W.heap.size + 1 < wb.heap.size := (by omega); have hz_wb_W_2 : W.heap.size + 1 + 1 < wb.heap.size := (by omega); have hz_wb_W_3 : W.heap.size + 1 + 1 + 1 < wb.heap.size := (by omega))))
    go_ret
    exact ⟨rfl, (((((bA _ _ _ _).trans (hb_wa.mono (by simp <;> omega))).alloc (by omega) _).trans (hb_wb.mono (by simp <;> omega))).alloc (by omega) _)⟩
  · skip
    go_enter Tryd.func32, Tryd.ntmps32
    go_wp2_with (go_at_call 11; (first | (with_reducible refine (cF _ (bA _ _ _ _)).mono ?_; rintro e wa ⟨rfl, hb_wa⟩; have hc_wa := (bcell hb_wa).1; have hf_wa := (bcell hb_wa).2; have hz_wa : _ ≤ wa.heap.size := hb_wa.size; (try simp only [World.size_alloc, World.heap_drewN, World.size_setCell, heap_drew] at hc_wa hf_wa hz_wa); have hz_wa_W_0 : W.heap.size < wa.heap.size := (by omega); have hz_wa_W_1 : W.heap.size + 1 < wa.heap.size := (by omega); have hz_wa_W_2 : W.heap.size + 1 + 1 < wa.heap.size := (by omega); have hz_wa_W_3 : W.heap.size + 1 + 1 + 1 < wa.heap.size := (by omega)) | (refine (cT _ (((bA _ _ _ _).trans (hb_wa.mono (by simp; omega))).alloc (by omega) _)).mono ?_; rintro e wb ⟨rfl, hb_wb⟩; have hc_wb := (bcell hb_wb).1; have hf_wb := (bcell hb_wb).2; have hz_wb : _ ≤ wb.heap.size := hb_wb.size; (try simp only [World.size_alloc, World.heap_drewN, World.size_setCell, heap_drew] at hc_wb hf_wb hz_wb); have hz_wb_wa_0 : wa.heap.size < wb.heap.size := (by omega); have hz_wb_W_0 : W.heap.size < wb.heap.size := (by omega); have hz_wb_W_1 : W.heap.size + 1 < wb.heap.size := (by omega); have hz_wb_W_2 : W.heap.size + 1 + 1 < wb.heap.size := (by omega); have hz_wb_W_3 : W.heap.size + 1 + 1 + 1 < wb.heap.size := (by omega))))
    go_ret
    exact ⟨rfl, (((((bA _ _ _ _).trans (hb_wa.mono (by simp <;> omega))).alloc (by omega) _).trans (hb_wb.mono (by simp <;> omega))).alloc (by omega) _)⟩
end
end Go.Proofs.YtcdjdnbdblpofaaDoor
