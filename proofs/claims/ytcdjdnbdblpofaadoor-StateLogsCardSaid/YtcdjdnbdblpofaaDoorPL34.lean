/-
  The walk of pharoslaw19.StateLogs: its loop. Conditions: what comes in is right; the three tables stand in their blocks.
-/
import Derived.Test.YtcdjdnbdblpofaaDoorPL33
import Derived.Test.YtcdjdnbdblpofaaDoorPL31
namespace Go.Proofs.YtcdjdnbdblpofaaDoor
open Go.RowKit Go.Maps
attribute [local go_sem] leftBy leaves eqW guardW
set_option linter.unusedSimpArgs false
set_option linter.unusedVariables false


/-- The state in the last line: what was done of it. -/
def lqS (R : List Chg) (a : ByteArray) (p : ByteArray × Nat) : Nat → List Chg
  | 0 => R
  | 1 => .warm a :: R
  | 2 => .warm a :: R
  | 3 => .cell p :: .warm a :: R
  | _ => .cell p :: .warm a :: R
theorem lqS_len (R : List Chg) (a : ByteArray) (p : ByteArray × Nat) (s : Nat) : (lqS R a p s).length ≤ R.length + 2 := by
  unfold lqS
  split <;> simp
theorem lqS_wm (R : List Chg) (a : ByteArray) (p : ByteArray × Nat) : wmF (lqS R a p 1) a = true := by simp [lqS, wmF]
theorem lqS_ce (R : List Chg) (a : ByteArray) (p : ByteArray × Nat) : ceF (lqS R a p 3) p = true := by simp [lqS, ceF]
def lqR (W0 : World) (b N : Nat) (L : List Kw) (Rs : Nat → List Chg) (s : Nat) (w' : World) : Prop := ∃ F, Inv W0 w' F b (N + s) L (Rs s)
/-- Between two rounds of the loop. -/
def lgsI (W0 : World) (b N0 : Nat) (L : List Kw) (l : List Lg) (i : Nat) (w : World) : Prop := ∃ F, Inv W0 w F b (N0 + i) L (notes l i)
/-- In the loop's condition: the list that was asked for. -/
def lgsR (W1 : World) (l : List Lg) (s : Option Value) (w' : World) : Prop := Below W1.heap.size W1 w' ∧ match s with | none => True | some v => lgV w' v l

set_option maxRecDepth 100000 in
set_option maxHeartbeats 32000000 in
theorem walk_logs {W : World} {sa ga : Option Addr} {sc gc : Nat} {L0 : List Kw} {l0 : List Lg} (hv : knL W (.slice sa L0.length sc) L0) (hok : ∀ K ∈ L0, Kok W K ∧ okT K.ad) (hg : lgV W (.slice ga l0.length gc) l0) (htop : ∀ x ∈ l0, topV W x)
    (hW : 3 ≤ W.heap.size) (hT : KT W) (a : ByteArray) (ha : okT a) (k v : Nat) (hk : k < Q256) (hvv : v < Q256) :
    Calls Tryd.prog 4 #[.slice sa L0.length sc, .slice ga l0.length gc, .string a, W4 k, W4 v] W fun e w' => e = .returned (.bool true) ∧ Below W.heap.size W w' := by
  have hv2 := knL_take hv 30
  obtain ⟨L, hLd⟩ : ∃ L, L = L0.take 30 := ⟨_, rfl⟩
  rw [← hLd] at hv2
  have hln : L.length ≤ 30 := by rw [hLd, List.length_take]; omega
  have hokL : ∀ K ∈ L, Kok W K ∧ okT K.ad := fun K hK => hok K (List.mem_of_mem_take (hLd ▸ hK))
  have hn0 : L0.length ≤ sc ∧ sc ≤ maxLen := by
    obtain ⟨_, _, h, h1, h2, _⟩ := hv
    simp only [Value.slice.injEq] at h
    obtain ⟨-, -, rfl⟩ := h
    exact ⟨h1, h2⟩
  unfold maxLen at hn0
  obtain ⟨hn1, hn2⟩ := hn0
  have hn3 : L0.length ≤ 9223372036854775807 := by omega
  have hmin : min (L0.length : Int) 30 = (L.length : Int) := by rw [hLd, List.length_take]; omega
  have hls2 : L.length ≤ sc := by rw [hLd, List.length_take]; omega
  clear hLd hok hv
  have hg2 := lgV_take hg 30
  obtain ⟨l, hld⟩ : ∃ l, l = l0.take 30 := ⟨_, rfl⟩
  rw [← hld] at hg2
  have hlln : l.length ≤ 30 := by rw [hld, List.length_take]; omega
  have htl : ∀ x ∈ l, topV W x := fun x hx => htop x (List.mem_of_mem_take (hld ▸ hx))
  have hm0 : l0.length ≤ gc ∧ gc ≤ maxLen := by
    obtain ⟨_, _, h, h1, h2, _⟩ := hg
    simp only [Value.slice.injEq] at h
    obtain ⟨-, -, rfl⟩ := h
    exact ⟨h1, h2⟩
  unfold maxLen at hm0
  obtain ⟨hm1, hm2⟩ := hm0
  have hm3 : l0.length ≤ 9223372036854775807 := by omega
  have hmin2 : min (l0.length : Int) 30 = (l.length : Int) := by rw [hld, List.length_take]; omega
  have hms2 : l.length ≤ gc := by rw [hld, List.length_take]; omega
  clear hld htop hg
  have b0 : Below W.heap.size W ((W.alloc (.cells #[.int .u64 (lb k 0 : Nat), .int .u64 (lb k 1 : Nat), .int .u64 (lb k 2 : Nat), .int .u64 (lb k 3 : Nat)] 25)).alloc (.cells #[.int .u64 (lb v 0 : Nat), .int .u64 (lb v 1 : Nat), .int .u64 (lb v 2 : Nat), .int .u64 (lb v 3 : Nat)] 25)) := ((Below.refl _ W).alloc (Nat.le_refl _) _).alloc (by simp) _
  have key : ((W.alloc (.cells #[.int .u64 (lb k 0 : Nat), .int .u64 (lb k 1 : Nat), .int .u64 (lb k 2 : Nat), .int .u64 (lb k 3 : Nat)] 25)).alloc (.cells #[.int .u64 (lb v 0 : Nat), .int .u64 (lb v 1 : Nat), .int .u64 (lb v 2 : Nat), .int .u64 (lb v 3 : Nat)] 25)).heap[W.heap.size]? = some (.cells #[.int .u64 (lb k 0 : Nat), .int .u64 (lb k 1 : Nat), .int .u64 (lb k 2 : Nat), .int .u64 (lb k 3 : Nat)] 25 (0, 0)) := (Below.heap_alloc _ _ _ (by simp)).trans (heap_new rfl)
  have val : ((W.alloc (.cells #[.int .u64 (lb k 0 : Nat), .int .u64 (lb k 1 : Nat), .int .u64 (lb k 2 : Nat), .int .u64 (lb k 3 : Nat)] 25)).alloc (.cells #[.int .u64 (lb v 0 : Nat), .int .u64 (lb v 1 : Nat), .int .u64 (lb v 2 : Nat), .int .u64 (lb v 3 : Nat)] 25)).heap[W.heap.size + 1]? = some (.cells #[.int .u64 (lb v 0 : Nat), .int .u64 (lb v 1 : Nat), .int .u64 (lb v 2 : Nat), .int .u64 (lb v 3 : Nat)] 25 (0, 0)) := heap_new (by simp)
  have z0 : W.heap.size + 2 ≤ ((W.alloc (.cells #[.int .u64 (lb k 0 : Nat), .int .u64 (lb k 1 : Nat), .int .u64 (lb k 2 : Nat), .int .u64 (lb k 3 : Nat)] 25)).alloc (.cells #[.int .u64 (lb v 0 : Nat), .int .u64 (lb v 1 : Nat), .int .u64 (lb v 2 : Nat), .int .u64 (lb v 3 : Nat)] 25)).heap.size := by simp
  go_enter Tryd.func4, Tryd.ntmps4
  go_wp2_with (go_at_call 9; refine (shown_any _).mono ?_; rintro e wa ⟨rfl, hb⟩)
  replace key := (hb.block _ (by omega)).trans key
  replace val := (hb.block _ (by omega)).trans val
  replace b0 := b0.trans (hb.mono b0.size)
  replace z0 := Nat.le_trans z0 hb.size
  clear hb
  have cN := New_any (hv2.below b0) (by omega) (fun K hK => (hokL K hK).2)
  go_wp2_with (go_at_call 10; refine cN.mono ?_; rintro e w1 ⟨rfl, hb, hS⟩)
  have hI : Inv wa w1 (fun k => wa.heap.size ≤ k ∧ k < w1.heap.size) wa.heap.size (2 * L.length) L [] := ⟨hS, fun k hk => hk.1, hb⟩
  clear hb hS cN hv2
  unfold ptr
  have hKT := Lib.hid (hT.below b0 hW)
  have hW3 : 3 ≤ wa.heap.size := by omega
  have hKok := Lib.hid fun K (hK : K ∈ L) => (hokL K hK).1.below b0
  have hLG := Lib.hid (hg2.below b0)
  have hTP := Lib.hid fun x (hx : x ∈ l) => (htl x hx).below b0
  have hll2 : l.length ≤ 9223372036854775807 := by omega
  obtain ⟨N0, hN0⟩ : ∃ N0, N0 = 2 * L.length := ⟨_, rfl⟩
  rw [← hN0] at hI
  replace hN0 : N0 ≤ 60 := by omega
  have hI0 : lgsI wa wa.heap.size N0 L l 0 w1 := ⟨_, hI⟩
  clear hI hT hokL hg2 htl
  obtain ⟨b, hbd⟩ : ∃ b, b = wa.heap.size := ⟨_, rfl⟩
  rw [← hbd] at hI0
  rw [← hbd]
  replace hbd := Lib.hid hbd
  go_wp2
  rcases Nat.eq_zero_or_pos l.length with hz | hz
  focus
    replace hz := Lib.hid hz
    go_loopw [13] (fun v wr => ∃ i : Nat, i ≤ l.length ∧ v = .int .i64 (i : Nat) ∧ lgsI wa b N0 L l i wr) (fun v _ => l.length - (intOf v).toNat)
    case atStart => exact ⟨0, Nat.zero_le _, rfl, hI0⟩
    case round =>
      obtain ⟨i, hi, rfl, hI⟩ := hrel
      by_cases hlt : i < l.length
      · exfalso; have := hz.out; omega
      · obtain rfl : i = l.length := by omega
        clear hlt
        obtain ⟨F, hI⟩ := hI
        obtain ⟨R, hRd⟩ : ∃ R, R = notes l l.length := ⟨_, rfl⟩
        have hRl : R.length = l.length := by rw [hRd]; exact notes_length (Nat.le_refl _)
        have hsv : svF R (a, k) = none := by rw [hRd]; exact svF_notes _ _
        have hwm : wmF R a = false := by rw [hRd]; exact wmF_notes _ _
        have hce : ceF R (a, k) = false := by rw [hRd]; exact ceF_notes _ _
        rw [← hRd] at hI
        clear hRd
        obtain ⟨N, hNd⟩ : ∃ N, N = N0 + l.length := ⟨_, rfl⟩
        rw [← hNd] at hI
        have hN : N ≤ 100 := by omega
        clear hNd
        have HRl := Lib.hid hRl
        clear hRl
        have cM := Mark_S hI.rep
        unfold ptr at cM
        rw [HRl.out] at cM
        go_wp2_with (go_at_call 17; refine cM.mono ?_; rintro e w2 ⟨rfl, hb⟩; have kk := (hI.bel.block _ (by omega)).trans key; have vv := (hI.bel.block _ (by omega)).trans val; replace kk := (hb.block _ (by have := hI.bel.size; omega)).trans kk; replace vv := (hb.block _ (by have := hI.bel.size; omega)).trans vv; replace hI := hI.below hb; clear hb cM; obtain ⟨x0, x1, x2, x3⟩ := cells4w kk; obtain ⟨y0, y1, y2, y3⟩ := cells4w vv)
        have hp : okP (a, k) := ⟨ha, hk⟩
        have hKw := fun (w : World) (hb : Below wa.heap.size wa w) (K : Kw) (hK : K ∈ L) => (hKok.out K hK).below hb
        replace hKw := Lib.hid hKw
        rcases oriN_err L a k with hoe | hoe
        focus
          have hlo : loaN L R a k = oriN L a k := by unfold loaN; rw [hsv]
          have cS := Save_ok hI.rep (Nat.le_trans hW3 hI.bel.size) (hKT.out.below hI.bel hW3) (hKw.out _ hI.bel) hp v (by rw [HRl.out]; omega) (by omega) (by rw [hlo]; exact hoe)
          unfold ptr at cS
          clear hlo hoe
          go_wp2_with (go_at_call 21; refine cS.mono ?_; intro e w3 hm; obtain ⟨rfl, sz3, F3, hI3, hkeep3⟩ := hI.step hm; clear hm cS x0 x1 x2 x3 y0 y1 y2 y3; have kk := (hI3.bel.block W.heap.size (by omega)).trans key; have vv := (hI3.bel.block (W.heap.size + 1) (by omega)).trans val; obtain ⟨x0, x1, x2, x3⟩ := cells4w kk; obtain ⟨y0, y1, y2, y3⟩ := cells4w vv; have zk : W.heap.size < w3.heap.size := (by have := hI3.bel.size; omega); have zv : W.heap.size + 1 < w3.heap.size := (by have := hI3.bel.size; omega); clear kk vv)
          have cL := Load_all hI3.rep (Nat.le_trans hW3 hI3.bel.size) (hKT.out.below hI3.bel hW3) (hKw.out _ hI3.bel) hp
          have hl1 : loaN L (.save (a, k) v :: R) a k = (v, 0) := by unfold loaN svF; rw [if_pos rfl]
          rw [hl1] at cL
          clear hl1
          dsimp only at cL
          unfold ptr at cL
          go_wp2_with (go_at_call 14; refine cL.mono ?_; rintro e w4 ⟨rfl, hb4⟩; have hI4 := hI3.below hb4; clear cL zk zv x0 x1 x2 x3 y0 y1 y2 y3; have kk := (hI4.bel.block W.heap.size (by omega)).trans key; have vv := (hI4.bel.block (W.heap.size + 1) (by omega)).trans val; obtain ⟨x0, x1, x2, x3⟩ := cells4w kk; obtain ⟨y0, y1, y2, y3⟩ := cells4w vv; have zk : W.heap.size < w4.heap.size := (by have := hI4.bel.size; omega); have zv : W.heap.size + 1 < w4.heap.size := (by have := hI4.bel.size; omega); clear kk vv)
          have sz4 := hb4.size
          have box17 : (w4.alloc (.cells #[.int .u64 (lb v 0 : Nat), .int .u64 (lb v 1 : Nat), .int .u64 (lb v 2 : Nat), .int .u64 (lb v 3 : Nat)] 25)).heap[w4.heap.size]? = some (.cells #[.int .u64 (lb v 0 : Nat), .int .u64 (lb v 1 : Nat), .int .u64 (lb v 2 : Nat), .int .u64 (lb v 3 : Nat)] 25 (0, 0)) := heap_new rfl
          have hq : w4.heap.size < (w4.alloc (.cells #[.int .u64 (lb v 0 : Nat), .int .u64 (lb v 1 : Nat), .int .u64 (lb v 2 : Nat), .int .u64 (lb v 3 : Nat)] 25)).heap.size := by simp
          have hnF : ¬ F3 w4.heap.size := fun h => by have := hI3.rep.flt _ h; omega
          replace hI4 := hI4.below ((Below.refl w4.heap.size w4).alloc (Nat.le_refl _) (.cells #[.int .u64 (lb v 0 : Nat), .int .u64 (lb v 1 : Nat), .int .u64 (lb v 2 : Nat), .int .u64 (lb v 3 : Nat)] 25))
          clear hb4 zk zv x0 x1 x2 x3 y0 y1 y2 y3
          generalize w4.alloc (.cells #[.int .u64 (lb v 0 : Nat), .int .u64 (lb v 1 : Nat), .int .u64 (lb v 2 : Nat), .int .u64 (lb v 3 : Nat)] 25) = w5 at *
          generalize w4.heap.size = q17 at *
          have cB := SaveBrief_S hI4.rep hp v (by have := HRl.out; simp only [List.length_cons]; omega) (by omega)
          unfold ptr at cB
          go_wp2_with (go_at_call 22; refine cB.mono ?_; intro e w6 hm; obtain ⟨rfl, sz6, F6, hI6, hkeep6⟩ := hI4.step hm; have hnF6 := (hkeep6 q17 hq hnF).1; replace box17 := (hkeep6 q17 hq hnF).2.trans box17; replace hq := Nat.lt_of_lt_of_le hq sz6; clear hm cB hkeep6; obtain ⟨b0', b1', b2', b3'⟩ := cells4w box17; have kk := (hI6.bel.block W.heap.size (by omega)).trans key; have vv := (hI6.bel.block (W.heap.size + 1) (by omega)).trans val; obtain ⟨x0, x1, x2, x3⟩ := cells4w kk; obtain ⟨y0, y1, y2, y3⟩ := cells4w vv; have zk : W.heap.size < w6.heap.size := (by have := hI6.bel.size; omega); have zv : W.heap.size + 1 < w6.heap.size := (by have := hI6.bel.size; omega); clear kk vv)
          have cM2 := Mark_S hI6.rep
          have hln2 : (Chg.brief (a, k) v :: .save (a, k) v :: R).length = l.length + 2 := by simp only [List.length_cons, HRl.out]
          rw [hln2] at cM2
          unfold ptr at cM2
          have hbr : brF (Chg.brief (a, k) v :: .save (a, k) v :: R) (a, k) = some v := by unfold brF; rw [if_pos rfl]
          have hwm2 : wmF (Chg.brief (a, k) v :: .save (a, k) v :: R) a = false := hwm
          have hce2 : ceF (Chg.brief (a, k) v :: .save (a, k) v :: R) (a, k) = false := hce
          replace hln2 : (Chg.brief (a, k) v :: .save (a, k) v :: R).length ≤ 1000 := by rw [hln2]; omega
          go_wp2_with (go_at_call 17; refine cM2.mono ?_; rintro e w7 ⟨rfl, hb7⟩; have hI7 := hI6.below hb7; clear cM2 x0 x1 x2 x3 y0 y1 y2 y3 zk zv hb7)
          clear hI6 box17 b0' b1' b2' b3' hnF6 hq hI hI3 hI4 hkeep3 hnF hsv hwm hce hp HRl
          obtain ⟨R2, hR2⟩ : ∃ R2, R2 = Chg.brief (a, k) v :: .save (a, k) v :: R := ⟨_, rfl⟩
          rw [← hR2] at hI7 hbr hwm2 hce2 hln2
          clear hR2
          refine wp_flowU (fun k => ([1, 1, 1, 1, 1, 2, 0, 1, 1, 1, 1, 1, 2, 1, 1, 1, 1, 1, 2, 1, 1, 1, 1, 1, 2, 1, 1, 1, 1, 1, 1, 2, 1, 1] : List Nat).getD k 1) (lqR wa b (N + 1 + 1) L (lqS R2 a (a, k))) (fun _ => True) (0) (⟨F6, hI7.rep.same (Nat.le_refl _) (fun _ _ => rfl), hI7.low, hI7.bel.drew⟩) trivial (by kernel_rfl) (by kernel_rfl) ?_
          (refine flowU_readE rfl rfl (fun K hK => ?_); apply Exists.intro; apply And.intro; (focus (intro w' hR; obtain ⟨F', hI'⟩ := hR; have kk := (hI'.bel.block W.heap.size (by omega)).trans key; have vv := (hI'.bel.block (W.heap.size + 1) (by omega)).trans val; obtain ⟨x0, x1, x2, x3⟩ := cells4w kk; obtain ⟨y0, y1, y2, y3⟩ := cells4w vv; clear kk vv hI'; go_simp; (try go_bits); exact rfl)); go_simp; (try go_bits); refine hK _ ?_; clear hK K)
          (refine flowU_readE rfl rfl (fun K hK => ?_); apply Exists.intro; apply And.intro; (focus (intro w' hR; obtain ⟨F', hI'⟩ := hR; have kk := (hI'.bel.block W.heap.size (by omega)).trans key; have vv := (hI'.bel.block (W.heap.size + 1) (by omega)).trans val; obtain ⟨x0, x1, x2, x3⟩ := cells4w kk; obtain ⟨y0, y1, y2, y3⟩ := cells4w vv; clear kk vv hI'; go_simp; (try go_bits); exact rfl)); go_simp; (try go_bits); refine hK _ ?_; clear hK K)
          first | (refine flowU_skip rfl (fun K hK => ?_); go_simp; (try go_bits); refine hK _ ?_; clear hK K) | (refine flowU_readE rfl rfl (fun K hK => ?_); apply Exists.intro; apply And.intro; (focus (intro w' hR; obtain ⟨F', hI'⟩ := hR; have kk := (hI'.bel.block W.heap.size (by omega)).trans key; have vv := (hI'.bel.block (W.heap.size + 1) (by omega)).trans val; obtain ⟨x0, x1, x2, x3⟩ := cells4w kk; obtain ⟨y0, y1, y2, y3⟩ := cells4w vv; clear kk vv hI'; go_simp; (try go_bits); exact rfl)); go_simp; (try go_bits); refine hK _ ?_; clear hK K)
          first | (refine flowU_skip rfl (fun K hK => ?_); go_simp; (try go_bits); refine hK _ ?_; clear hK K) | (refine flowU_readE rfl rfl (fun K hK => ?_); apply Exists.intro; apply And.intro; (focus (intro w' hR; obtain ⟨F', hI'⟩ := hR; have kk := (hI'.bel.block W.heap.size (by omega)).trans key; have vv := (hI'.bel.block (W.heap.size + 1) (by omega)).trans val; obtain ⟨x0, x1, x2, x3⟩ := cells4w kk; obtain ⟨y0, y1, y2, y3⟩ := cells4w vv; clear kk vv hI'; go_simp; (try go_bits); exact rfl)); go_simp; (try go_bits); refine hK _ ?_; clear hK K)
          first | (refine flowU_skip rfl (fun K hK => ?_); go_simp; (try go_bits); refine hK _ ?_; clear hK K) | (refine flowU_readE rfl rfl (fun K hK => ?_); apply Exists.intro; apply And.intro; (focus (intro w' hR; obtain ⟨F', hI'⟩ := hR; have kk := (hI'.bel.block W.heap.size (by omega)).trans key; have vv := (hI'.bel.block (W.heap.size + 1) (by omega)).trans val; obtain ⟨x0, x1, x2, x3⟩ := cells4w kk; obtain ⟨y0, y1, y2, y3⟩ := cells4w vv; clear kk vv hI'; go_simp; (try go_bits); exact rfl)); go_simp; (try go_bits); refine hK _ ?_; clear hK K)
          refine flowU_step (fun u s => u = .agg #[.int .u64 (lb v 0 : Nat), .int .u64 (lb v 1 : Nat), .int .u64 (lb v 2 : Nat), .int .u64 (lb v 3 : Nat)] ∧ s = 0) (by decide) rfl ⟨_, 0, rfl, rfl⟩ (fun w' hR => ?_) (fun _ _ _ _ _ => trivial) (fun K hK v s2 hs2 => ?_)
          focus
            obtain ⟨F', hI'⟩ := hR
            have cM := Brief_S hI'.rep ⟨ha, hk⟩
            rw [show brF (lqS R2 a (a, k) 0) (a, k) = some v from hbr] at cM
            unfold ptr at cM
            go_simp
            refine cM.mono ?_
            rintro e w3 ⟨rfl, hb3⟩
            exact ⟨_, rfl, 0, ⟨rfl, rfl⟩, F', hI'.below hb3⟩
          obtain ⟨rfl, rfl⟩ := hs2
          (go_simp; refine hK _ _ ?_; clear hK K)
          first | (refine flowU_skip rfl (fun K hK => ?_); go_simp; (try go_bits); refine hK _ ?_; clear hK K) | (refine flowU_lateE rfl rfl (fun K hK => ?_); apply Exists.intro; apply And.intro; (focus (intro s0 w' hC hR; obtain ⟨F', hI'⟩ := hR; have kk := (hI'.bel.block W.heap.size (by omega)).trans key; have vv := (hI'.bel.block (W.heap.size + 1) (by omega)).trans val; obtain ⟨x0, x1, x2, x3⟩ := cells4w kk; obtain ⟨y0, y1, y2, y3⟩ := cells4w vv; clear kk vv hI'; go_simp; (try go_bits); exact rfl)); go_simp; (try go_bits); refine hK _ ?_; clear hK K)
          first | (refine flowU_skip rfl (fun K hK => ?_); go_simp; (try go_bits); refine hK _ ?_; clear hK K) | (refine flowU_readE rfl rfl (fun K hK => ?_); apply Exists.intro; apply And.intro; (focus (intro w' hR; obtain ⟨F', hI'⟩ := hR; have kk := (hI'.bel.block W.heap.size (by omega)).trans key; have vv := (hI'.bel.block (W.heap.size + 1) (by omega)).trans val; obtain ⟨x0, x1, x2, x3⟩ := cells4w kk; obtain ⟨y0, y1, y2, y3⟩ := cells4w vv; clear kk vv hI'; go_simp; (try go_bits); exact rfl)); go_simp; (try go_bits); refine hK _ ?_; clear hK K)
          (refine flowU_readE rfl rfl (fun K hK => ?_); apply Exists.intro; apply And.intro; (focus (intro w' hR; obtain ⟨F', hI'⟩ := hR; have kk := (hI'.bel.block W.heap.size (by omega)).trans key; have vv := (hI'.bel.block (W.heap.size + 1) (by omega)).trans val; obtain ⟨x0, x1, x2, x3⟩ := cells4w kk; obtain ⟨y0, y1, y2, y3⟩ := cells4w vv; clear kk vv hI'; go_simp; (try go_bits); exact rfl)); go_simp; (try go_bits); refine hK _ ?_; clear hK K)
          (refine flowU_readE rfl rfl (fun K hK => ?_); apply Exists.intro; apply And.intro; (focus (intro w' hR; obtain ⟨F', hI'⟩ := hR; have kk := (hI'.bel.block W.heap.size (by omega)).trans key; have vv := (hI'.bel.block (W.heap.size + 1) (by omega)).trans val; obtain ⟨x0, x1, x2, x3⟩ := cells4w kk; obtain ⟨y0, y1, y2, y3⟩ := cells4w vv; clear kk vv hI'; go_simp; (try go_bits); exact rfl)); go_simp; (try go_bits); refine hK _ ?_; clear hK K)
          first | (refine flowU_skip rfl (fun K hK => ?_); go_simp; (try go_bits); refine hK _ ?_; clear hK K) | (refine flowU_readE rfl rfl (fun K hK => ?_); apply Exists.intro; apply And.intro; (focus (intro w' hR; obtain ⟨F', hI'⟩ := hR; have kk := (hI'.bel.block W.heap.size (by omega)).trans key; have vv := (hI'.bel.block (W.heap.size + 1) (by omega)).trans val; obtain ⟨x0, x1, x2, x3⟩ := cells4w kk; obtain ⟨y0, y1, y2, y3⟩ := cells4w vv; clear kk vv hI'; go_simp; (try go_bits); exact rfl)); go_simp; (try go_bits); refine hK _ ?_; clear hK K)
          first | (refine flowU_skip rfl (fun K hK => ?_); go_simp; (try go_bits); refine hK _ ?_; clear hK K) | (refine flowU_readE rfl rfl (fun K hK => ?_); apply Exists.intro; apply And.intro; (focus (intro w' hR; obtain ⟨F', hI'⟩ := hR; have kk := (hI'.bel.block W.heap.size (by omega)).trans key; have vv := (hI'.bel.block (W.heap.size + 1) (by omega)).trans val; obtain ⟨x0, x1, x2, x3⟩ := cells4w kk; obtain ⟨y0, y1, y2, y3⟩ := cells4w vv; clear kk vv hI'; go_simp; (try go_bits); exact rfl)); go_simp; (try go_bits); refine hK _ ?_; clear hK K)
          refine flowU_step (fun u s => u = .bool false ∧ s = 1) (by decide) rfl ⟨_, 1, rfl, rfl⟩ (fun w' hR => ?_) (fun _ _ _ _ _ => trivial) (fun K hK v s2 hs2 => ?_)
          focus
            obtain ⟨F', hI'⟩ := hR
            have cM := (Warm_new hI'.rep ha hwm2 (by have := lqS_len R2 a (a, k) 0; omega) (by omega))
            unfold ptr at cM
            go_simp
            refine cM.mono ?_
            intro e w3 hm
            obtain ⟨rfl, sz', F2, hI2, hkeep⟩ := hI'.step hm
            exact ⟨_, rfl, 1, ⟨rfl, rfl⟩, F2, hI2⟩
          obtain ⟨rfl, rfl⟩ := hs2
          (go_simp; refine hK _ _ ?_; clear hK K)
          first | (refine flowU_skip rfl (fun K hK => ?_); go_simp; (try go_bits); refine hK _ ?_; clear hK K) | (refine flowU_readE rfl rfl (fun K hK => ?_); apply Exists.intro; apply And.intro; (focus (intro w' hR; obtain ⟨F', hI'⟩ := hR; have kk := (hI'.bel.block W.heap.size (by omega)).trans key; have vv := (hI'.bel.block (W.heap.size + 1) (by omega)).trans val; obtain ⟨x0, x1, x2, x3⟩ := cells4w kk; obtain ⟨y0, y1, y2, y3⟩ := cells4w vv; clear kk vv hI'; go_simp; (try go_bits); exact rfl)); go_simp; (try go_bits); refine hK _ ?_; clear hK K)
          (refine flowU_readE rfl rfl (fun K hK => ?_); apply Exists.intro; apply And.intro; (focus (intro w' hR; obtain ⟨F', hI'⟩ := hR; have kk := (hI'.bel.block W.heap.size (by omega)).trans key; have vv := (hI'.bel.block (W.heap.size + 1) (by omega)).trans val; obtain ⟨x0, x1, x2, x3⟩ := cells4w kk; obtain ⟨y0, y1, y2, y3⟩ := cells4w vv; clear kk vv hI'; go_simp; (try go_bits); exact rfl)); go_simp; (try go_bits); refine hK _ ?_; clear hK K)
          (refine flowU_readE rfl rfl (fun K hK => ?_); apply Exists.intro; apply And.intro; (focus (intro w' hR; obtain ⟨F', hI'⟩ := hR; have kk := (hI'.bel.block W.heap.size (by omega)).trans key; have vv := (hI'.bel.block (W.heap.size + 1) (by omega)).trans val; obtain ⟨x0, x1, x2, x3⟩ := cells4w kk; obtain ⟨y0, y1, y2, y3⟩ := cells4w vv; clear kk vv hI'; go_simp; (try go_bits); exact rfl)); go_simp; (try go_bits); refine hK _ ?_; clear hK K)
          first | (refine flowU_skip rfl (fun K hK => ?_); go_simp; (try go_bits); refine hK _ ?_; clear hK K) | (refine flowU_readE rfl rfl (fun K hK => ?_); apply Exists.intro; apply And.intro; (focus (intro w' hR; obtain ⟨F', hI'⟩ := hR; have kk := (hI'.bel.block W.heap.size (by omega)).trans key; have vv := (hI'.bel.block (W.heap.size + 1) (by omega)).trans val; obtain ⟨x0, x1, x2, x3⟩ := cells4w kk; obtain ⟨y0, y1, y2, y3⟩ := cells4w vv; clear kk vv hI'; go_simp; (try go_bits); exact rfl)); go_simp; (try go_bits); refine hK _ ?_; clear hK K)
          first | (refine flowU_skip rfl (fun K hK => ?_); go_simp; (try go_bits); refine hK _ ?_; clear hK K) | (refine flowU_readE rfl rfl (fun K hK => ?_); apply Exists.intro; apply And.intro; (focus (intro w' hR; obtain ⟨F', hI'⟩ := hR; have kk := (hI'.bel.block W.heap.size (by omega)).trans key; have vv := (hI'.bel.block (W.heap.size + 1) (by omega)).trans val; obtain ⟨x0, x1, x2, x3⟩ := cells4w kk; obtain ⟨y0, y1, y2, y3⟩ := cells4w vv; clear kk vv hI'; go_simp; (try go_bits); exact rfl)); go_simp; (try go_bits); refine hK _ ?_; clear hK K)
          refine flowU_step (fun u s => u = .bool true ∧ s = 2) (by decide) rfl ⟨_, 2, rfl, rfl⟩ (fun w' hR => ?_) (fun _ _ _ _ _ => trivial) (fun K hK v s2 hs2 => ?_)
          focus
            obtain ⟨F', hI'⟩ := hR
            have cM := (Warm_old hI'.rep ha (lqS_wm _ _ _))
            unfold ptr at cM
            go_simp
            refine cM.mono ?_
            intro e w3 hm
            obtain ⟨rfl, sz', F2, hI2, hkeep⟩ := hI'.step hm
            exact ⟨_, rfl, 2, ⟨rfl, rfl⟩, F2, hI2⟩
          obtain ⟨rfl, rfl⟩ := hs2
          (go_simp; refine hK _ _ ?_; clear hK K)
          (refine flowU_readE rfl rfl (fun K hK => ?_); apply Exists.intro; apply And.intro; (focus (intro w' hR; obtain ⟨F', hI'⟩ := hR; have kk := (hI'.bel.block W.heap.size (by omega)).trans key; have vv := (hI'.bel.block (W.heap.size + 1) (by omega)).trans val; obtain ⟨x0, x1, x2, x3⟩ := cells4w kk; obtain ⟨y0, y1, y2, y3⟩ := cells4w vv; clear kk vv hI'; go_simp; (try go_bits); exact rfl)); go_simp; (try go_bits); refine hK _ ?_; clear hK K)
          (refine flowU_readE rfl rfl (fun K hK => ?_); apply Exists.intro; apply And.intro; (focus (intro w' hR; obtain ⟨F', hI'⟩ := hR; have kk := (hI'.bel.block W.heap.size (by omega)).trans key; have vv := (hI'.bel.block (W.heap.size + 1) (by omega)).trans val; obtain ⟨x0, x1, x2, x3⟩ := cells4w kk; obtain ⟨y0, y1, y2, y3⟩ := cells4w vv; clear kk vv hI'; go_simp; (try go_bits); exact rfl)); go_simp; (try go_bits); refine hK _ ?_; clear hK K)
          first | (refine flowU_skip rfl (fun K hK => ?_); go_simp; (try go_bits); refine hK _ ?_; clear hK K) | (refine flowU_readE rfl rfl (fun K hK => ?_); apply Exists.intro; apply And.intro; (focus (intro w' hR; obtain ⟨F', hI'⟩ := hR; have kk := (hI'.bel.block W.heap.size (by omega)).trans key; have vv := (hI'.bel.block (W.heap.size + 1) (by omega)).trans val; obtain ⟨x0, x1, x2, x3⟩ := cells4w kk; obtain ⟨y0, y1, y2, y3⟩ := cells4w vv; clear kk vv hI'; go_simp; (try go_bits); exact rfl)); go_simp; (try go_bits); refine hK _ ?_; clear hK K)
          first | (refine flowU_skip rfl (fun K hK => ?_); go_simp; (try go_bits); refine hK _ ?_; clear hK K) | (refine flowU_readE rfl rfl (fun K hK => ?_); apply Exists.intro; apply And.intro; (focus (intro w' hR; obtain ⟨F', hI'⟩ := hR; have kk := (hI'.bel.block W.heap.size (by omega)).trans key; have vv := (hI'.bel.block (W.heap.size + 1) (by omega)).trans val; obtain ⟨x0, x1, x2, x3⟩ := cells4w kk; obtain ⟨y0, y1, y2, y3⟩ := cells4w vv; clear kk vv hI'; go_simp; (try go_bits); exact rfl)); go_simp; (try go_bits); refine hK _ ?_; clear hK K)
          first | (refine flowU_skip rfl (fun K hK => ?_); go_simp; (try go_bits); refine hK _ ?_; clear hK K) | (refine flowU_readE rfl rfl (fun K hK => ?_); apply Exists.intro; apply And.intro; (focus (intro w' hR; obtain ⟨F', hI'⟩ := hR; have kk := (hI'.bel.block W.heap.size (by omega)).trans key; have vv := (hI'.bel.block (W.heap.size + 1) (by omega)).trans val; obtain ⟨x0, x1, x2, x3⟩ := cells4w kk; obtain ⟨y0, y1, y2, y3⟩ := cells4w vv; clear kk vv hI'; go_simp; (try go_bits); exact rfl)); go_simp; (try go_bits); refine hK _ ?_; clear hK K)
          refine flowU_step (fun u s => u = .bool false ∧ s = 3) (by decide) rfl ⟨_, 3, rfl, rfl⟩ (fun w' hR => ?_) (fun _ _ _ _ _ => trivial) (fun K hK v s2 hs2 => ?_)
          focus
            obtain ⟨F', hI'⟩ := hR
            have cM := (WarmCell_new hI'.rep ⟨ha, hk⟩ hce2 (by have := lqS_len R2 a (a, k) 2; omega) (by omega))
            unfold ptr at cM
            go_simp
            refine cM.mono ?_
            intro e w3 hm
            obtain ⟨rfl, sz', F2, hI2, hkeep⟩ := hI'.step hm
            exact ⟨_, rfl, 3, ⟨rfl, rfl⟩, F2, hI2⟩
          obtain ⟨rfl, rfl⟩ := hs2
          (go_simp; refine hK _ _ ?_; clear hK K)
          first | (refine flowU_skip rfl (fun K hK => ?_); go_simp; (try go_bits); refine hK _ ?_; clear hK K) | (refine flowU_readE rfl rfl (fun K hK => ?_); apply Exists.intro; apply And.intro; (focus (intro w' hR; obtain ⟨F', hI'⟩ := hR; have kk := (hI'.bel.block W.heap.size (by omega)).trans key; have vv := (hI'.bel.block (W.heap.size + 1) (by omega)).trans val; obtain ⟨x0, x1, x2, x3⟩ := cells4w kk; obtain ⟨y0, y1, y2, y3⟩ := cells4w vv; clear kk vv hI'; go_simp; (try go_bits); exact rfl)); go_simp; (try go_bits); refine hK _ ?_; clear hK K)
          (refine flowU_readE rfl rfl (fun K hK => ?_); apply Exists.intro; apply And.intro; (focus (intro w' hR; obtain ⟨F', hI'⟩ := hR; have kk := (hI'.bel.block W.heap.size (by omega)).trans key; have vv := (hI'.bel.block (W.heap.size + 1) (by omega)).trans val; obtain ⟨x0, x1, x2, x3⟩ := cells4w kk; obtain ⟨y0, y1, y2, y3⟩ := cells4w vv; clear kk vv hI'; go_simp; (try go_bits); exact rfl)); go_simp; (try go_bits); refine hK _ ?_; clear hK K)
          (refine flowU_readE rfl rfl (fun K hK => ?_); apply Exists.intro; apply And.intro; (focus (intro w' hR; obtain ⟨F', hI'⟩ := hR; have kk := (hI'.bel.block W.heap.size (by omega)).trans key; have vv := (hI'.bel.block (W.heap.size + 1) (by omega)).trans val; obtain ⟨x0, x1, x2, x3⟩ := cells4w kk; obtain ⟨y0, y1, y2, y3⟩ := cells4w vv; clear kk vv hI'; go_simp; (try go_bits); exact rfl)); go_simp; (try go_bits); refine hK _ ?_; clear hK K)
          first | (refine flowU_skip rfl (fun K hK => ?_); go_simp; (try go_bits); refine hK _ ?_; clear hK K) | (refine flowU_readE rfl rfl (fun K hK => ?_); apply Exists.intro; apply And.intro; (focus (intro w' hR; obtain ⟨F', hI'⟩ := hR; have kk := (hI'.bel.block W.heap.size (by omega)).trans key; have vv := (hI'.bel.block (W.heap.size + 1) (by omega)).trans val; obtain ⟨x0, x1, x2, x3⟩ := cells4w kk; obtain ⟨y0, y1, y2, y3⟩ := cells4w vv; clear kk vv hI'; go_simp; (try go_bits); exact rfl)); go_simp; (try go_bits); refine hK _ ?_; clear hK K)
          first | (refine flowU_skip rfl (fun K hK => ?_); go_simp; (try go_bits); refine hK _ ?_; clear hK K) | (refine flowU_readE rfl rfl (fun K hK => ?_); apply Exists.intro; apply And.intro; (focus (intro w' hR; obtain ⟨F', hI'⟩ := hR; have kk := (hI'.bel.block W.heap.size (by omega)).trans key; have vv := (hI'.bel.block (W.heap.size + 1) (by omega)).trans val; obtain ⟨x0, x1, x2, x3⟩ := cells4w kk; obtain ⟨y0, y1, y2, y3⟩ := cells4w vv; clear kk vv hI'; go_simp; (try go_bits); exact rfl)); go_simp; (try go_bits); refine hK _ ?_; clear hK K)
          first | (refine flowU_skip rfl (fun K hK => ?_); go_simp; (try go_bits); refine hK _ ?_; clear hK K) | (refine flowU_readE rfl rfl (fun K hK => ?_); apply Exists.intro; apply And.intro; (focus (intro w' hR; obtain ⟨F', hI'⟩ := hR; have kk := (hI'.bel.block W.heap.size (by omega)).trans key; have vv := (hI'.bel.block (W.heap.size + 1) (by omega)).trans val; obtain ⟨x0, x1, x2, x3⟩ := cells4w kk; obtain ⟨y0, y1, y2, y3⟩ := cells4w vv; clear kk vv hI'; go_simp; (try go_bits); exact rfl)); go_simp; (try go_bits); refine hK _ ?_; clear hK K)
          refine flowU_step (fun u s => u = .bool true ∧ s = 4) (by decide) rfl ⟨_, 4, rfl, rfl⟩ (fun w' hR => ?_) (fun _ _ _ _ _ => trivial) (fun K hK v s2 hs2 => ?_)
          focus
            obtain ⟨F', hI'⟩ := hR
            have cM := (WarmCell_old hI'.rep ⟨ha, hk⟩ (lqS_ce _ _ _))
            unfold ptr at cM
            go_simp
            refine cM.mono ?_
            intro e w3 hm
            obtain ⟨rfl, sz', F2, hI2, hkeep⟩ := hI'.step hm
            exact ⟨_, rfl, 4, ⟨rfl, rfl⟩, F2, hI2⟩
          obtain ⟨rfl, rfl⟩ := hs2
          (go_simp; refine hK _ _ ?_; clear hK K)
          (refine flowU_readE rfl rfl (fun K hK => ?_); apply Exists.intro; apply And.intro; (focus (intro w' hR; obtain ⟨F', hI'⟩ := hR; have kk := (hI'.bel.block W.heap.size (by omega)).trans key; have vv := (hI'.bel.block (W.heap.size + 1) (by omega)).trans val; obtain ⟨x0, x1, x2, x3⟩ := cells4w kk; obtain ⟨y0, y1, y2, y3⟩ := cells4w vv; clear kk vv hI'; go_simp; (try go_bits); exact rfl)); go_simp; (try go_bits); refine hK _ ?_; clear hK K)
          (refine flowU_readE rfl rfl (fun K hK => ?_); apply Exists.intro; apply And.intro; (focus (intro w' hR; obtain ⟨F', hI'⟩ := hR; have kk := (hI'.bel.block W.heap.size (by omega)).trans key; have vv := (hI'.bel.block (W.heap.size + 1) (by omega)).trans val; obtain ⟨x0, x1, x2, x3⟩ := cells4w kk; obtain ⟨y0, y1, y2, y3⟩ := cells4w vv; clear kk vv hI'; go_simp; (try go_bits); exact rfl)); go_simp; (try go_bits); refine hK _ ?_; clear hK K)
          refine flowU_nil ?_
          intro w8 hR8
          obtain ⟨F8, hI8⟩ := hR8
          go_wp2
          go_ret
          exact ⟨rfl, b0.trans (hI8.bel.mono (by omega))⟩
        focus
          have hlo : loaN L R a k = oriN L a k := by unfold loaN; rw [hsv]
          have cS := Save_no hI.rep (Nat.le_trans hW3 hI.bel.size) (hKT.out.below hI.bel hW3) (hKw.out _ hI.bel) hp v (by rw [hlo]; exact hoe)
          unfold ptr at cS
          go_wp2_with (go_at_call 21; refine cS.mono ?_; intro e w3 hm; obtain ⟨rfl, sz3, F3, hI3, hkeep3⟩ := hI.step hm; clear hm cS x0 x1 x2 x3 y0 y1 y2 y3; have kk := (hI3.bel.block W.heap.size (by omega)).trans key; have vv := (hI3.bel.block (W.heap.size + 1) (by omega)).trans val; obtain ⟨x0, x1, x2, x3⟩ := cells4w kk; obtain ⟨y0, y1, y2, y3⟩ := cells4w vv; have zk : W.heap.size < w3.heap.size := (by have := hI3.bel.size; omega); have zv : W.heap.size + 1 < w3.heap.size := (by have := hI3.bel.size; omega); clear kk vv)
          have cL := Load_all hI3.rep (Nat.le_trans hW3 hI3.bel.size) (hKT.out.below hI3.bel hW3) (hKw.out _ hI3.bel) hp
          have hl1 : loaN L R a k = ((oriN L a k).1, 190) := hlo.trans (Prod.ext rfl hoe)
          rw [hl1] at cL
          clear hl1 hlo hoe
          generalize (oriN L a k).1 = ov at *
          dsimp only at cL
          unfold ptr at cL
          go_wp2_with (go_at_call 14; refine cL.mono ?_; rintro e w4 ⟨rfl, hb4⟩; have hI4 := hI3.below hb4; clear cL zk zv x0 x1 x2 x3 y0 y1 y2 y3; have kk := (hI4.bel.block W.heap.size (by omega)).trans key; have vv := (hI4.bel.block (W.heap.size + 1) (by omega)).trans val; obtain ⟨x0, x1, x2, x3⟩ := cells4w kk; obtain ⟨y0, y1, y2, y3⟩ := cells4w vv; have zk : W.heap.size < w4.heap.size := (by have := hI4.bel.size; omega); have zv : W.heap.size + 1 < w4.heap.size := (by have := hI4.bel.size; omega); clear kk vv)
          have sz4 := hb4.size
          have box17 : (w4.alloc (.cells #[.int .u64 (lb ov 0 : Nat), .int .u64 (lb ov 1 : Nat), .int .u64 (lb ov 2 : Nat), .int .u64 (lb ov 3 : Nat)] 25)).heap[w4.heap.size]? = some (.cells #[.int .u64 (lb ov 0 : Nat), .int .u64 (lb ov 1 : Nat), .int .u64 (lb ov 2 : Nat), .int .u64 (lb ov 3 : Nat)] 25 (0, 0)) := heap_new rfl
          have hq : w4.heap.size < (w4.alloc (.cells #[.int .u64 (lb ov 0 : Nat), .int .u64 (lb ov 1 : Nat), .int .u64 (lb ov 2 : Nat), .int .u64 (lb ov 3 : Nat)] 25)).heap.size := by simp
          have hnF : ¬ F3 w4.heap.size := fun h => by have := hI3.rep.flt _ h; omega
          replace hI4 := hI4.below ((Below.refl w4.heap.size w4).alloc (Nat.le_refl _) (.cells #[.int .u64 (lb ov 0 : Nat), .int .u64 (lb ov 1 : Nat), .int .u64 (lb ov 2 : Nat), .int .u64 (lb ov 3 : Nat)] 25))
          clear hb4 zk zv x0 x1 x2 x3 y0 y1 y2 y3
          generalize w4.alloc (.cells #[.int .u64 (lb ov 0 : Nat), .int .u64 (lb ov 1 : Nat), .int .u64 (lb ov 2 : Nat), .int .u64 (lb ov 3 : Nat)] 25) = w5 at *
          generalize w4.heap.size = q17 at *
          have cB := SaveBrief_S hI4.rep hp v (by rw [HRl.out]; omega) (by omega)
          unfold ptr at cB
          go_wp2_with (go_at_call 22; refine cB.mono ?_; intro e w6 hm; obtain ⟨rfl, sz6, F6, hI6, hkeep6⟩ := hI4.step hm; have hnF6 := (hkeep6 q17 hq hnF).1; replace box17 := (hkeep6 q17 hq hnF).2.trans box17; replace hq := Nat.lt_of_lt_of_le hq sz6; clear hm cB hkeep6; obtain ⟨b0', b1', b2', b3'⟩ := cells4w box17; have kk := (hI6.bel.block W.heap.size (by omega)).trans key; have vv := (hI6.bel.block (W.heap.size + 1) (by omega)).trans val; obtain ⟨x0, x1, x2, x3⟩ := cells4w kk; obtain ⟨y0, y1, y2, y3⟩ := cells4w vv; have zk : W.heap.size < w6.heap.size := (by have := hI6.bel.size; omega); have zv : W.heap.size + 1 < w6.heap.size := (by have := hI6.bel.size; omega); clear kk vv)
          have cM2 := Mark_S hI6.rep
          have hln2 : (Chg.brief (a, k) v :: R).length = l.length + 1 := by simp only [List.length_cons, HRl.out]
          rw [hln2] at cM2
          unfold ptr at cM2
          have hbr : brF (Chg.brief (a, k) v :: R) (a, k) = some v := by unfold brF; rw [if_pos rfl]
          have hwm2 : wmF (Chg.brief (a, k) v :: R) a = false := hwm
          have hce2 : ceF (Chg.brief (a, k) v :: R) (a, k) = false := hce
          replace hln2 : (Chg.brief (a, k) v :: R).length ≤ 1000 := by rw [hln2]; omega
          go_wp2_with (go_at_call 17; refine cM2.mono ?_; rintro e w7 ⟨rfl, hb7⟩; have hI7 := hI6.below hb7; clear cM2 x0 x1 x2 x3 y0 y1 y2 y3 zk zv hb7)
          clear hI6 box17 b0' b1' b2' b3' hnF6 hq hI hI3 hI4 hkeep3 hnF hsv hwm hce hp HRl
          obtain ⟨R2, hR2⟩ : ∃ R2, R2 = Chg.brief (a, k) v :: R := ⟨_, rfl⟩
          rw [← hR2] at hI7 hbr hwm2 hce2 hln2
          clear hR2
          refine wp_flowU (fun k => ([1, 1, 1, 1, 1, 2, 0, 1, 1, 1, 1, 1, 2, 1, 1, 1, 1, 1, 2, 1, 1, 1, 1, 1, 2, 1, 1, 1, 1, 1, 1, 2, 1, 1] : List Nat).getD k 1) (lqR wa b (N + 1 + 1) L (lqS R2 a (a, k))) (fun _ => True) (0) (⟨F6, hI7.rep.same (Nat.le_refl _) (fun _ _ => rfl), hI7.low, hI7.bel.drew⟩) trivial (by kernel_rfl) (by kernel_rfl) ?_
          (refine flowU_readE rfl rfl (fun K hK => ?_); apply Exists.intro; apply And.intro; (focus (intro w' hR; obtain ⟨F', hI'⟩ := hR; have kk := (hI'.bel.block W.heap.size (by omega)).trans key; have vv := (hI'.bel.block (W.heap.size + 1) (by omega)).trans val; obtain ⟨x0, x1, x2, x3⟩ := cells4w kk; obtain ⟨y0, y1, y2, y3⟩ := cells4w vv; clear kk vv hI'; go_simp; (try go_bits); exact rfl)); go_simp; (try go_bits); refine hK _ ?_; clear hK K)
          (refine flowU_readE rfl rfl (fun K hK => ?_); apply Exists.intro; apply And.intro; (focus (intro w' hR; obtain ⟨F', hI'⟩ := hR; have kk := (hI'.bel.block W.heap.size (by omega)).trans key; have vv := (hI'.bel.block (W.heap.size + 1) (by omega)).trans val; obtain ⟨x0, x1, x2, x3⟩ := cells4w kk; obtain ⟨y0, y1, y2, y3⟩ := cells4w vv; clear kk vv hI'; go_simp; (try go_bits); exact rfl)); go_simp; (try go_bits); refine hK _ ?_; clear hK K)
          first | (refine flowU_skip rfl (fun K hK => ?_); go_simp; (try go_bits); refine hK _ ?_; clear hK K) | (refine flowU_readE rfl rfl (fun K hK => ?_); apply Exists.intro; apply And.intro; (focus (intro w' hR; obtain ⟨F', hI'⟩ := hR; have kk := (hI'.bel.block W.heap.size (by omega)).trans key; have vv := (hI'.bel.block (W.heap.size + 1) (by omega)).trans val; obtain ⟨x0, x1, x2, x3⟩ := cells4w kk; obtain ⟨y0, y1, y2, y3⟩ := cells4w vv; clear kk vv hI'; go_simp; (try go_bits); exact rfl)); go_simp; (try go_bits); refine hK _ ?_; clear hK K)
          first | (refine flowU_skip rfl (fun K hK => ?_); go_simp; (try go_bits); refine hK _ ?_; clear hK K) | (refine flowU_readE rfl rfl (fun K hK => ?_); apply Exists.intro; apply And.intro; (focus (intro w' hR; obtain ⟨F', hI'⟩ := hR; have kk := (hI'.bel.block W.heap.size (by omega)).trans key; have vv := (hI'.bel.block (W.heap.size + 1) (by omega)).trans val; obtain ⟨x0, x1, x2, x3⟩ := cells4w kk; obtain ⟨y0, y1, y2, y3⟩ := cells4w vv; clear kk vv hI'; go_simp; (try go_bits); exact rfl)); go_simp; (try go_bits); refine hK _ ?_; clear hK K)
          first | (refine flowU_skip rfl (fun K hK => ?_); go_simp; (try go_bits); refine hK _ ?_; clear hK K) | (refine flowU_readE rfl rfl (fun K hK => ?_); apply Exists.intro; apply And.intro; (focus (intro w' hR; obtain ⟨F', hI'⟩ := hR; have kk := (hI'.bel.block W.heap.size (by omega)).trans key; have vv := (hI'.bel.block (W.heap.size + 1) (by omega)).trans val; obtain ⟨x0, x1, x2, x3⟩ := cells4w kk; obtain ⟨y0, y1, y2, y3⟩ := cells4w vv; clear kk vv hI'; go_simp; (try go_bits); exact rfl)); go_simp; (try go_bits); refine hK _ ?_; clear hK K)
          refine flowU_step (fun u s => u = .agg #[.int .u64 (lb v 0 : Nat), .int .u64 (lb v 1 : Nat), .int .u64 (lb v 2 : Nat), .int .u64 (lb v 3 : Nat)] ∧ s = 0) (by decide) rfl ⟨_, 0, rfl, rfl⟩ (fun w' hR => ?_) (fun _ _ _ _ _ => trivial) (fun K hK v s2 hs2 => ?_)
          focus
            obtain ⟨F', hI'⟩ := hR
            have cM := Brief_S hI'.rep ⟨ha, hk⟩
            rw [show brF (lqS R2 a (a, k) 0) (a, k) = some v from hbr] at cM
            unfold ptr at cM
            go_simp
            refine cM.mono ?_
            rintro e w3 ⟨rfl, hb3⟩
            exact ⟨_, rfl, 0, ⟨rfl, rfl⟩, F', hI'.below hb3⟩
          obtain ⟨rfl, rfl⟩ := hs2
          (go_simp; refine hK _ _ ?_; clear hK K)
          first | (refine flowU_skip rfl (fun K hK => ?_); go_simp; (try go_bits); refine hK _ ?_; clear hK K) | (refine flowU_lateE rfl rfl (fun K hK => ?_); apply Exists.intro; apply And.intro; (focus (intro s0 w' hC hR; obtain ⟨F', hI'⟩ := hR; have kk := (hI'.bel.block W.heap.size (by omega)).trans key; have vv := (hI'.bel.block (W.heap.size + 1) (by omega)).trans val; obtain ⟨x0, x1, x2, x3⟩ := cells4w kk; obtain ⟨y0, y1, y2, y3⟩ := cells4w vv; clear kk vv hI'; go_simp; (try go_bits); exact rfl)); go_simp; (try go_bits); refine hK _ ?_; clear hK K)
          first | (refine flowU_skip rfl (fun K hK => ?_); go_simp; (try go_bits); refine hK _ ?_; clear hK K) | (refine flowU_readE rfl rfl (fun K hK => ?_); apply Exists.intro; apply And.intro; (focus (intro w' hR; obtain ⟨F', hI'⟩ := hR; have kk := (hI'.bel.block W.heap.size (by omega)).trans key; have vv := (hI'.bel.block (W.heap.size + 1) (by omega)).trans val; obtain ⟨x0, x1, x2, x3⟩ := cells4w kk; obtain ⟨y0, y1, y2, y3⟩ := cells4w vv; clear kk vv hI'; go_simp; (try go_bits); exact rfl)); go_simp; (try go_bits); refine hK _ ?_; clear hK K)
          (refine flowU_readE rfl rfl (fun K hK => ?_); apply Exists.intro; apply And.intro; (focus (intro w' hR; obtain ⟨F', hI'⟩ := hR; have kk := (hI'.bel.block W.heap.size (by omega)).trans key; have vv := (hI'.bel.block (W.heap.size + 1) (by omega)).trans val; obtain ⟨x0, x1, x2, x3⟩ := cells4w kk; obtain ⟨y0, y1, y2, y3⟩ := cells4w vv; clear kk vv hI'; go_simp; (try go_bits); exact rfl)); go_simp; (try go_bits); refine hK _ ?_; clear hK K)
          (refine flowU_readE rfl rfl (fun K hK => ?_); apply Exists.intro; apply And.intro; (focus (intro w' hR; obtain ⟨F', hI'⟩ := hR; have kk := (hI'.bel.block W.heap.size (by omega)).trans key; have vv := (hI'.bel.block (W.heap.size + 1) (by omega)).trans val; obtain ⟨x0, x1, x2, x3⟩ := cells4w kk; obtain ⟨y0, y1, y2, y3⟩ := cells4w vv; clear kk vv hI'; go_simp; (try go_bits); exact rfl)); go_simp; (try go_bits); refine hK _ ?_; clear hK K)
          first | (refine flowU_skip rfl (fun K hK => ?_); go_simp; (try go_bits); refine hK _ ?_; clear hK K) | (refine flowU_readE rfl rfl (fun K hK => ?_); apply Exists.intro; apply And.intro; (focus (intro w' hR; obtain ⟨F', hI'⟩ := hR; have kk := (hI'.bel.block W.heap.size (by omega)).trans key; have vv := (hI'.bel.block (W.heap.size + 1) (by omega)).trans val; obtain ⟨x0, x1, x2, x3⟩ := cells4w kk; obtain ⟨y0, y1, y2, y3⟩ := cells4w vv; clear kk vv hI'; go_simp; (try go_bits); exact rfl)); go_simp; (try go_bits); refine hK _ ?_; clear hK K)
          first | (refine flowU_skip rfl (fun K hK => ?_); go_simp; (try go_bits); refine hK _ ?_; clear hK K) | (refine flowU_readE rfl rfl (fun K hK => ?_); apply Exists.intro; apply And.intro; (focus (intro w' hR; obtain ⟨F', hI'⟩ := hR; have kk := (hI'.bel.block W.heap.size (by omega)).trans key; have vv := (hI'.bel.block (W.heap.size + 1) (by omega)).trans val; obtain ⟨x0, x1, x2, x3⟩ := cells4w kk; obtain ⟨y0, y1, y2, y3⟩ := cells4w vv; clear kk vv hI'; go_simp; (try go_bits); exact rfl)); go_simp; (try go_bits); refine hK _ ?_; clear hK K)
          refine flowU_step (fun u s => u = .bool false ∧ s = 1) (by decide) rfl ⟨_, 1, rfl, rfl⟩ (fun w' hR => ?_) (fun _ _ _ _ _ => trivial) (fun K hK v s2 hs2 => ?_)
          focus
            obtain ⟨F', hI'⟩ := hR
            have cM := (Warm_new hI'.rep ha hwm2 (by have := lqS_len R2 a (a, k) 0; omega) (by omega))
            unfold ptr at cM
            go_simp
            refine cM.mono ?_
            intro e w3 hm
            obtain ⟨rfl, sz', F2, hI2, hkeep⟩ := hI'.step hm
            exact ⟨_, rfl, 1, ⟨rfl, rfl⟩, F2, hI2⟩
          obtain ⟨rfl, rfl⟩ := hs2
          (go_simp; refine hK _ _ ?_; clear hK K)
          first | (refine flowU_skip rfl (fun K hK => ?_); go_simp; (try go_bits); refine hK _ ?_; clear hK K) | (refine flowU_readE rfl rfl (fun K hK => ?_); apply Exists.intro; apply And.intro; (focus (intro w' hR; obtain ⟨F', hI'⟩ := hR; have kk := (hI'.bel.block W.heap.size (by omega)).trans key; have vv := (hI'.bel.block (W.heap.size + 1) (by omega)).trans val; obtain ⟨x0, x1, x2, x3⟩ := cells4w kk; obtain ⟨y0, y1, y2, y3⟩ := cells4w vv; clear kk vv hI'; go_simp; (try go_bits); exact rfl)); go_simp; (try go_bits); refine hK _ ?_; clear hK K)
          (refine flowU_readE rfl rfl (fun K hK => ?_); apply Exists.intro; apply And.intro; (focus (intro w' hR; obtain ⟨F', hI'⟩ := hR; have kk := (hI'.bel.block W.heap.size (by omega)).trans key; have vv := (hI'.bel.block (W.heap.size + 1) (by omega)).trans val; obtain ⟨x0, x1, x2, x3⟩ := cells4w kk; obtain ⟨y0, y1, y2, y3⟩ := cells4w vv; clear kk vv hI'; go_simp; (try go_bits); exact rfl)); go_simp; (try go_bits); refine hK _ ?_; clear hK K)
          (refine flowU_readE rfl rfl (fun K hK => ?_); apply Exists.intro; apply And.intro; (focus (intro w' hR; obtain ⟨F', hI'⟩ := hR; have kk := (hI'.bel.block W.heap.size (by omega)).trans key; have vv := (hI'.bel.block (W.heap.size + 1) (by omega)).trans val; obtain ⟨x0, x1, x2, x3⟩ := cells4w kk; obtain ⟨y0, y1, y2, y3⟩ := cells4w vv; clear kk vv hI'; go_simp; (try go_bits); exact rfl)); go_simp; (try go_bits); refine hK _ ?_; clear hK K)
          first | (refine flowU_skip rfl (fun K hK => ?_); go_simp; (try go_bits); refine hK _ ?_; clear hK K) | (refine flowU_readE rfl rfl (fun K hK => ?_); apply Exists.intro; apply And.intro; (focus (intro w' hR; obtain ⟨F', hI'⟩ := hR; have kk := (hI'.bel.block W.heap.size (by omega)).trans key; have vv := (hI'.bel.block (W.heap.size + 1) (by omega)).trans val; obtain ⟨x0, x1, x2, x3⟩ := cells4w kk; obtain ⟨y0, y1, y2, y3⟩ := cells4w vv; clear kk vv hI'; go_simp; (try go_bits); exact rfl)); go_simp; (try go_bits); refine hK _ ?_; clear hK K)
          first | (refine flowU_skip rfl (fun K hK => ?_); go_simp; (try go_bits); refine hK _ ?_; clear hK K) | (refine flowU_readE rfl rfl (fun K hK => ?_); apply Exists.intro; apply And.intro; (focus (intro w' hR; obtain ⟨F', hI'⟩ := hR; have kk := (hI'.bel.block W.heap.size (by omega)).trans key; have vv := (hI'.bel.block (W.heap.size + 1) (by omega)).trans val; obtain ⟨x0, x1, x2, x3⟩ := cells4w kk; obtain ⟨y0, y1, y2, y3⟩ := cells4w vv; clear kk vv hI'; go_simp; (try go_bits); exact rfl)); go_simp; (try go_bits); refine hK _ ?_; clear hK K)
          refine flowU_step (fun u s => u = .bool true ∧ s = 2) (by decide) rfl ⟨_, 2, rfl, rfl⟩ (fun w' hR => ?_) (fun _ _ _ _ _ => trivial) (fun K hK v s2 hs2 => ?_)
          focus
            obtain ⟨F', hI'⟩ := hR
            have cM := (Warm_old hI'.rep ha (lqS_wm _ _ _))
            unfold ptr at cM
            go_simp
            refine cM.mono ?_
            intro e w3 hm
            obtain ⟨rfl, sz', F2, hI2, hkeep⟩ := hI'.step hm
            exact ⟨_, rfl, 2, ⟨rfl, rfl⟩, F2, hI2⟩
          obtain ⟨rfl, rfl⟩ := hs2
          (go_simp; refine hK _ _ ?_; clear hK K)
          (refine flowU_readE rfl rfl (fun K hK => ?_); apply Exists.intro; apply And.intro; (focus (intro w' hR; obtain ⟨F', hI'⟩ := hR; have kk := (hI'.bel.block W.heap.size (by omega)).trans key; have vv := (hI'.bel.block (W.heap.size + 1) (by omega)).trans val; obtain ⟨x0, x1, x2, x3⟩ := cells4w kk; obtain ⟨y0, y1, y2, y3⟩ := cells4w vv; clear kk vv hI'; go_simp; (try go_bits); exact rfl)); go_simp; (try go_bits); refine hK _ ?_; clear hK K)
          (refine flowU_readE rfl rfl (fun K hK => ?_); apply Exists.intro; apply And.intro; (focus (intro w' hR; obtain ⟨F', hI'⟩ := hR; have kk := (hI'.bel.block W.heap.size (by omega)).trans key; have vv := (hI'.bel.block (W.heap.size + 1) (by omega)).trans val; obtain ⟨x0, x1, x2, x3⟩ := cells4w kk; obtain ⟨y0, y1, y2, y3⟩ := cells4w vv; clear kk vv hI'; go_simp; (try go_bits); exact rfl)); go_simp; (try go_bits); refine hK _ ?_; clear hK K)
          first | (refine flowU_skip rfl (fun K hK => ?_); go_simp; (try go_bits); refine hK _ ?_; clear hK K) | (refine flowU_readE rfl rfl (fun K hK => ?_); apply Exists.intro; apply And.intro; (focus (intro w' hR; obtain ⟨F', hI'⟩ := hR; have kk := (hI'.bel.block W.heap.size (by omega)).trans key; have vv := (hI'.bel.block (W.heap.size + 1) (by omega)).trans val; obtain ⟨x0, x1, x2, x3⟩ := cells4w kk; obtain ⟨y0, y1, y2, y3⟩ := cells4w vv; clear kk vv hI'; go_simp; (try go_bits); exact rfl)); go_simp; (try go_bits); refine hK _ ?_; clear hK K)
          first | (refine flowU_skip rfl (fun K hK => ?_); go_simp; (try go_bits); refine hK _ ?_; clear hK K) | (refine flowU_readE rfl rfl (fun K hK => ?_); apply Exists.intro; apply And.intro; (focus (intro w' hR; obtain ⟨F', hI'⟩ := hR; have kk := (hI'.bel.block W.heap.size (by omega)).trans key; have vv := (hI'.bel.block (W.heap.size + 1) (by omega)).trans val; obtain ⟨x0, x1, x2, x3⟩ := cells4w kk; obtain ⟨y0, y1, y2, y3⟩ := cells4w vv; clear kk vv hI'; go_simp; (try go_bits); exact rfl)); go_simp; (try go_bits); refine hK _ ?_; clear hK K)
          first | (refine flowU_skip rfl (fun K hK => ?_); go_simp; (try go_bits); refine hK _ ?_; clear hK K) | (refine flowU_readE rfl rfl (fun K hK => ?_); apply Exists.intro; apply And.intro; (focus (intro w' hR; obtain ⟨F', hI'⟩ := hR; have kk := (hI'.bel.block W.heap.size (by omega)).trans key; have vv := (hI'.bel.block (W.heap.size + 1) (by omega)).trans val; obtain ⟨x0, x1, x2, x3⟩ := cells4w kk; obtain ⟨y0, y1, y2, y3⟩ := cells4w vv; clear kk vv hI'; go_simp; (try go_bits); exact rfl)); go_simp; (try go_bits); refine hK _ ?_; clear hK K)
          refine flowU_step (fun u s => u = .bool false ∧ s = 3) (by decide) rfl ⟨_, 3, rfl, rfl⟩ (fun w' hR => ?_) (fun _ _ _ _ _ => trivial) (fun K hK v s2 hs2 => ?_)
          focus
            obtain ⟨F', hI'⟩ := hR
            have cM := (WarmCell_new hI'.rep ⟨ha, hk⟩ hce2 (by have := lqS_len R2 a (a, k) 2; omega) (by omega))
            unfold ptr at cM
            go_simp
            refine cM.mono ?_
            intro e w3 hm
            obtain ⟨rfl, sz', F2, hI2, hkeep⟩ := hI'.step hm
            exact ⟨_, rfl, 3, ⟨rfl, rfl⟩, F2, hI2⟩
          obtain ⟨rfl, rfl⟩ := hs2
          (go_simp; refine hK _ _ ?_; clear hK K)
          first | (refine flowU_skip rfl (fun K hK => ?_); go_simp; (try go_bits); refine hK _ ?_; clear hK K) | (refine flowU_readE rfl rfl (fun K hK => ?_); apply Exists.intro; apply And.intro; (focus (intro w' hR; obtain ⟨F', hI'⟩ := hR; have kk := (hI'.bel.block W.heap.size (by omega)).trans key; have vv := (hI'.bel.block (W.heap.size + 1) (by omega)).trans val; obtain ⟨x0, x1, x2, x3⟩ := cells4w kk; obtain ⟨y0, y1, y2, y3⟩ := cells4w vv; clear kk vv hI'; go_simp; (try go_bits); exact rfl)); go_simp; (try go_bits); refine hK _ ?_; clear hK K)
          (refine flowU_readE rfl rfl (fun K hK => ?_); apply Exists.intro; apply And.intro; (focus (intro w' hR; obtain ⟨F', hI'⟩ := hR; have kk := (hI'.bel.block W.heap.size (by omega)).trans key; have vv := (hI'.bel.block (W.heap.size + 1) (by omega)).trans val; obtain ⟨x0, x1, x2, x3⟩ := cells4w kk; obtain ⟨y0, y1, y2, y3⟩ := cells4w vv; clear kk vv hI'; go_simp; (try go_bits); exact rfl)); go_simp; (try go_bits); refine hK _ ?_; clear hK K)
          (refine flowU_readE rfl rfl (fun K hK => ?_); apply Exists.intro; apply And.intro; (focus (intro w' hR; obtain ⟨F', hI'⟩ := hR; have kk := (hI'.bel.block W.heap.size (by omega)).trans key; have vv := (hI'.bel.block (W.heap.size + 1) (by omega)).trans val; obtain ⟨x0, x1, x2, x3⟩ := cells4w kk; obtain ⟨y0, y1, y2, y3⟩ := cells4w vv; clear kk vv hI'; go_simp; (try go_bits); exact rfl)); go_simp; (try go_bits); refine hK _ ?_; clear hK K)
          first | (refine flowU_skip rfl (fun K hK => ?_); go_simp; (try go_bits); refine hK _ ?_; clear hK K) | (refine flowU_readE rfl rfl (fun K hK => ?_); apply Exists.intro; apply And.intro; (focus (intro w' hR; obtain ⟨F', hI'⟩ := hR; have kk := (hI'.bel.block W.heap.size (by omega)).trans key; have vv := (hI'.bel.block (W.heap.size + 1) (by omega)).trans val; obtain ⟨x0, x1, x2, x3⟩ := cells4w kk; obtain ⟨y0, y1, y2, y3⟩ := cells4w vv; clear kk vv hI'; go_simp; (try go_bits); exact rfl)); go_simp; (try go_bits); refine hK _ ?_; clear hK K)
          first | (refine flowU_skip rfl (fun K hK => ?_); go_simp; (try go_bits); refine hK _ ?_; clear hK K) | (refine flowU_readE rfl rfl (fun K hK => ?_); apply Exists.intro; apply And.intro; (focus (intro w' hR; obtain ⟨F', hI'⟩ := hR; have kk := (hI'.bel.block W.heap.size (by omega)).trans key; have vv := (hI'.bel.block (W.heap.size + 1) (by omega)).trans val; obtain ⟨x0, x1, x2, x3⟩ := cells4w kk; obtain ⟨y0, y1, y2, y3⟩ := cells4w vv; clear kk vv hI'; go_simp; (try go_bits); exact rfl)); go_simp; (try go_bits); refine hK _ ?_; clear hK K)
          first | (refine flowU_skip rfl (fun K hK => ?_); go_simp; (try go_bits); refine hK _ ?_; clear hK K) | (refine flowU_readE rfl rfl (fun K hK => ?_); apply Exists.intro; apply And.intro; (focus (intro w' hR; obtain ⟨F', hI'⟩ := hR; have kk := (hI'.bel.block W.heap.size (by omega)).trans key; have vv := (hI'.bel.block (W.heap.size + 1) (by omega)).trans val; obtain ⟨x0, x1, x2, x3⟩ := cells4w kk; obtain ⟨y0, y1, y2, y3⟩ := cells4w vv; clear kk vv hI'; go_simp; (try go_bits); exact rfl)); go_simp; (try go_bits); refine hK _ ?_; clear hK K)
          refine flowU_step (fun u s => u = .bool true ∧ s = 4) (by decide) rfl ⟨_, 4, rfl, rfl⟩ (fun w' hR => ?_) (fun _ _ _ _ _ => trivial) (fun K hK v s2 hs2 => ?_)
          focus
            obtain ⟨F', hI'⟩ := hR
            have cM := (WarmCell_old hI'.rep ⟨ha, hk⟩ (lqS_ce _ _ _))
            unfold ptr at cM
            go_simp
            refine cM.mono ?_
            intro e w3 hm
            obtain ⟨rfl, sz', F2, hI2, hkeep⟩ := hI'.step hm
            exact ⟨_, rfl, 4, ⟨rfl, rfl⟩, F2, hI2⟩
          obtain ⟨rfl, rfl⟩ := hs2
          (go_simp; refine hK _ _ ?_; clear hK K)
          (refine flowU_readE rfl rfl (fun K hK => ?_); apply Exists.intro; apply And.intro; (focus (intro w' hR; obtain ⟨F', hI'⟩ := hR; have kk := (hI'.bel.block W.heap.size (by omega)).trans key; have vv := (hI'.bel.block (W.heap.size + 1) (by omega)).trans val; obtain ⟨x0, x1, x2, x3⟩ := cells4w kk; obtain ⟨y0, y1, y2, y3⟩ := cells4w vv; clear kk vv hI'; go_simp; (try go_bits); exact rfl)); go_simp; (try go_bits); refine hK _ ?_; clear hK K)
          (refine flowU_readE rfl rfl (fun K hK => ?_); apply Exists.intro; apply And.intro; (focus (intro w' hR; obtain ⟨F', hI'⟩ := hR; have kk := (hI'.bel.block W.heap.size (by omega)).trans key; have vv := (hI'.bel.block (W.heap.size + 1) (by omega)).trans val; obtain ⟨x0, x1, x2, x3⟩ := cells4w kk; obtain ⟨y0, y1, y2, y3⟩ := cells4w vv; clear kk vv hI'; go_simp; (try go_bits); exact rfl)); go_simp; (try go_bits); refine hK _ ?_; clear hK K)
          refine flowU_nil ?_
          intro w8 hR8
          obtain ⟨F8, hI8⟩ := hR8
          go_wp2
          go_ret
          exact ⟨rfl, b0.trans (hI8.bel.mono (by omega))⟩
  focus
    obtain ⟨gb, gf, hga⟩ : ∃ gb gf, ga = some ⟨gb, gf, none⟩ := by
      obtain ⟨a2, c2, hv, _, _, h3⟩ := hLG.out
      obtain ⟨rfl, rfl⟩ : ga = a2 ∧ gc = c2 := by simpa using hv
      obtain ⟨bb, oo, e, _⟩ := h3 0 _ (List.getElem?_eq_getElem hz)
      exact ⟨bb, oo, e⟩
    subst hga
    go_loopw [13] (fun v wr => ∃ i : Nat, i ≤ l.length ∧ v = .int .i64 (i : Nat) ∧ lgsI wa b N0 L l i wr) (fun v _ => l.length - (intOf v).toNat)
    case atStart => exact ⟨0, Nat.zero_le _, rfl, hI0⟩
    case round =>
      obtain ⟨i, hi, rfl, hI⟩ := hrel
      by_cases hlt : i < l.length
      · obtain ⟨F, hI⟩ := hI
        obtain ⟨x, hx⟩ : ∃ x, l[i]? = some x := ⟨_, List.getElem?_eq_getElem hlt⟩
        obtain ⟨p0, p1, p2⟩ : wa.cell? ⟨gb, gf + i * 3, none⟩ = some (.string x.ad) ∧ wa.cell? ⟨gb, gf + i * 3 + 1, none⟩ = some (.slice x.tp x.tn x.tc) ∧ wa.cell? ⟨gb, gf + i * 3 + 2, none⟩ = some (.string x.dt) := by
          obtain ⟨a2, c2, hv, _, _, h3⟩ := hLG.out
          obtain ⟨bb, oo, e, h⟩ := h3 i x hx
          obtain ⟨rfl, rfl⟩ : some (⟨gb, gf, none⟩ : Addr) = a2 ∧ gc = c2 := by simpa using hv
          obtain ⟨rfl, rfl⟩ : gb = bb ∧ gf = oo := by simpa using e
          exact h
        have g0 := (hI.bel.cell (p := ⟨gb, gf + i * 3, none⟩) (cell_lt p0)).trans p0
        have g1 := (hI.bel.cell (p := ⟨gb, gf + i * 3 + 1, none⟩) (cell_lt p1)).trans p1
        have g2 := (hI.bel.cell (p := ⟨gb, gf + i * 3 + 2, none⟩) (cell_lt p2)).trans p2
        have hN1 := notes_succ hx
        have cL := Log_S hI.rep x (by rw [notes_length hi]; omega)
        rw [← hN1] at cL
        unfold ptr Lg.v at cL
        have hxk := Lib.hid hx
        clear p0 p1 p2 hN1 hx
        go_wp2_with (go_at_call 19; refine cL.mono ?_; intro e w2 hm; obtain ⟨rfl, hs2, F2, hI2, hkeep⟩ := hI.step hm; clear hm cL g0 g1 g2)
        clear hI hkeep
        have hbd1 : (i : Int) + 1 ≤ (gc : Int) := by omega
        have hbd0 : (0 : Int) ≤ (i : Int) + 1 := by omega
        refine wp_flowU (fun k => ([1, 1, 1, 1, 2, 0, 0, 1, 1, 1, 1, 2, 0, 0, 0, 0, 2, 1, 1] : List Nat).getD k 1) (lgsR w2 (l.take (i + 1))) (fun _ => True) (none) (⟨Below.drew (Below.refl _ _), trivial⟩) trivial (by kernel_rfl) (by kernel_rfl) ?_
        (refine flowU_readE rfl rfl (fun K hK => ?_); apply Exists.intro; apply And.intro; (focus (intro w' hR; clear hR; go_simp; (try go_bits); exact rfl)); go_simp; (try go_bits); refine hK _ ?_; clear hK K)
        (refine flowU_readE rfl rfl (fun K hK => ?_); apply Exists.intro; apply And.intro; (focus (intro w' hR; clear hR; go_simp; (try go_bits); exact rfl)); go_simp; (try go_bits); refine hK _ ?_; clear hK K)
        (refine flowU_readE rfl rfl (fun K hK => ?_); apply Exists.intro; apply And.intro; (focus (intro w' hR; clear hR; go_simp; (try go_bits); exact rfl)); go_simp; (try go_bits); refine hK _ ?_; clear hK K)
        first | (refine flowU_skip rfl (fun K hK => ?_); go_simp; (try go_bits); refine hK _ ?_; clear hK K) | (refine flowU_readE rfl rfl (fun K hK => ?_); apply Exists.intro; apply And.intro; (focus (intro w' hR; clear hR; go_simp; (try go_bits); exact rfl)); go_simp; (try go_bits); refine hK _ ?_; clear hK K)
        refine flowU_step (fun v s => v = .int .i64 ((i : Int) + 1) ∧ s = none) (by decide) rfl ⟨_, none, rfl, rfl⟩ (fun w' hR => ?_) (fun _ _ _ _ _ => trivial) (fun K hK v s2 hs2 => ?_)
        focus
          obtain ⟨hb, _⟩ := hR
          have cM := Mark_S (hI2.below hb).rep
          rw [notes_length (show i + 1 ≤ l.length by omega)] at cM
          unfold ptr at cM
          go_simp
          refine cM.mono ?_
          rintro e w3 ⟨rfl, hb3⟩
          exact ⟨_, rfl, none, ⟨by simp, rfl⟩, hb.trans (hb3.mono hb.size), trivial⟩
        obtain ⟨rfl, rfl⟩ := hs2
        (go_simp; refine hK _ _ ?_; clear hK K)
        first | (refine flowU_skip rfl (fun K hK => ?_); go_simp; (try go_bits); refine hK _ ?_; clear hK K) | (refine flowU_lateE rfl rfl (fun K hK => ?_); apply Exists.intro; apply And.intro; (focus (intro s0 w' hC hR; clear hR; go_simp; (try go_bits); exact rfl)); go_simp; (try go_bits); refine hK _ ?_; clear hK K)
        first | (refine flowU_skip rfl (fun K hK => ?_); go_simp; (try go_bits); refine hK _ ?_; clear hK K) | (refine flowU_lateE rfl rfl (fun K hK => ?_); apply Exists.intro; apply And.intro; (focus (intro s0 w' hC hR; clear hR; go_simp; (try go_bits); exact rfl)); go_simp; (try go_bits); refine hK _ ?_; clear hK K)
        first | (refine flowU_skip rfl (fun K hK => ?_); go_simp; (try go_bits); refine hK _ ?_; clear hK K) | (refine flowU_readE rfl rfl (fun K hK => ?_); apply Exists.intro; apply And.intro; (focus (intro w' hR; clear hR; go_simp; (try go_bits); exact rfl)); go_simp; (try go_bits); refine hK _ ?_; clear hK K)
        (refine flowU_readE rfl rfl (fun K hK => ?_); apply Exists.intro; apply And.intro; (focus (intro w' hR; clear hR; go_simp; (try go_bits); exact rfl)); go_simp; (try go_bits); refine hK _ ?_; clear hK K)
        (refine flowU_readE rfl rfl (fun K hK => ?_); apply Exists.intro; apply And.intro; (focus (intro w' hR; clear hR; go_simp; (try go_bits); exact rfl)); go_simp; (try go_bits); refine hK _ ?_; clear hK K)
        first | (refine flowU_skip rfl (fun K hK => ?_); go_simp; (try go_bits); refine hK _ ?_; clear hK K) | (refine flowU_readE rfl rfl (fun K hK => ?_); apply Exists.intro; apply And.intro; (focus (intro w' hR; clear hR; go_simp; (try go_bits); exact rfl)); go_simp; (try go_bits); refine hK _ ?_; clear hK K)
        refine flowU_step (fun v s => s = some v) (by decide) rfl ⟨.slice none 0 0, _, rfl⟩ (fun w' hR => ?_) (fun _ _ _ _ _ => trivial) (fun K hK v s2 hs2 => ?_)
        focus
          obtain ⟨hb, _⟩ := hR
          have cM := Logs_S (hI2.below hb).rep (by rw [notes_length (show i + 1 ≤ l.length by omega)]; omega)
          rw [lgF_notes_take] at cM
          unfold ptr at cM
          go_simp
          refine cM.mono ?_
          rintro e w3 ⟨lv, rfl, hlv, hb3⟩
          exact ⟨_, rfl, hb.trans (hb3.mono hb.size), hlv⟩
        obtain rfl := hs2
        (go_simp; refine hK _ _ ?_; clear hK K)
        first | (refine flowU_skip rfl (fun K hK => ?_); go_simp; (try go_bits); refine hK _ ?_; clear hK K) | (refine flowU_lateE rfl rfl (fun K hK => ?_); apply Exists.intro; apply And.intro; (focus (intro s0 w' hC hR; clear hR; go_simp; (try go_bits); exact rfl)); go_simp; (try go_bits); refine hK _ ?_; clear hK K)
        first | (refine flowU_skip rfl (fun K hK => ?_); go_simp; (try go_bits); refine hK _ ?_; clear hK K) | (refine flowU_lateE rfl rfl (fun K hK => ?_); apply Exists.intro; apply And.intro; (focus (intro s0 w' hC hR; clear hR; go_simp; (try go_bits); exact rfl)); go_simp; (try go_bits); refine hK _ ?_; clear hK K)
        first | (refine flowU_skip rfl (fun K hK => ?_); go_simp; (try go_bits); refine hK _ ?_; clear hK K) | (refine flowU_lateE rfl rfl (fun K hK => ?_); apply Exists.intro; apply And.intro; (focus (intro s0 w' hC hR; clear hR; go_simp; (try go_bits); exact rfl)); go_simp; (try go_bits); refine hK _ ?_; clear hK K)
        first | (refine flowU_skip rfl (fun K hK => ?_); go_simp; (try go_bits); refine hK _ ?_; clear hK K) | (refine flowU_lateE rfl rfl (fun K hK => ?_); apply Exists.intro; apply And.intro; (focus (intro s0 w' hC hR; clear hR; go_simp; (try go_bits); exact rfl)); go_simp; (try go_bits); refine hK _ ?_; clear hK K)
        refine flowU_step (fun v s => v = .bool true ∧ s = none) (by decide) rfl ⟨_, none, rfl, rfl⟩ (fun w' hR => ?_) (fun _ _ _ _ _ => trivial) (fun K hK v s2 hs2 => ?_)
        focus
          obtain ⟨hb, hlv⟩ := hR
          have hb0 := hI2.bel.trans (hb.mono hI2.bel.size)
          have hg3 := lgV_take (hLG.out.below hb0) (i + 1)
          have hlt1 : (l.take (i + 1)).length = i + 1 := by rw [List.length_take]; omega
          have cS := SameLogs_same hlv hg3 (fun x hx => (hTP.out x (List.mem_of_mem_take hx)).below hb0) (by omega)
          rw [hlt1] at cS
          clear hlt1 hg3 hlv
          go_simp
          refine cS.mono ?_
          rintro e w3 ⟨rfl, hb3⟩
          exact ⟨_, rfl, none, ⟨rfl, rfl⟩, hb.trans (hb3.mono hb.size), trivial⟩
        obtain ⟨rfl, rfl⟩ := hs2
        (go_simp; refine hK _ _ ?_; clear hK K)
        first | (refine flowU_skip rfl (fun K hK => ?_); go_simp; (try go_bits); refine hK _ ?_; clear hK K) | (refine flowU_readE rfl rfl (fun K hK => ?_); apply Exists.intro; apply And.intro; (focus (intro w' hR; clear hR; go_simp; (try go_bits); exact rfl)); go_simp; (try go_bits); refine hK _ ?_; clear hK K)
        (refine flowU_readE rfl rfl (fun K hK => ?_); apply Exists.intro; apply And.intro; (focus (intro w' hR; clear hR; go_simp; (try go_bits); exact rfl)); go_simp; (try go_bits); refine hK _ ?_; clear hK K)
        refine flowU_nil ?_
        intro w8 hR8
        obtain ⟨hb8, _⟩ := hR8
        go_wp2
        go_roundw
        case rel => exact ⟨i + 1, by omega, by go_num, F2, hI2.below hb8⟩
        case measure => simp [intOf]; omega
      · obtain rfl : i = l.length := by omega
        clear hlt
        obtain ⟨F, hI⟩ := hI
        obtain ⟨R, hRd⟩ : ∃ R, R = notes l l.length := ⟨_, rfl⟩
        have hRl : R.length = l.length := by rw [hRd]; exact notes_length (Nat.le_refl _)
        have hsv : svF R (a, k) = none := by rw [hRd]; exact svF_notes _ _
        have hwm : wmF R a = false := by rw [hRd]; exact wmF_notes _ _
        have hce : ceF R (a, k) = false := by rw [hRd]; exact ceF_notes _ _
        rw [← hRd] at hI
        clear hRd
        obtain ⟨N, hNd⟩ : ∃ N, N = N0 + l.length := ⟨_, rfl⟩
        rw [← hNd] at hI
        have hN : N ≤ 100 := by omega
        clear hNd
        have HRl := Lib.hid hRl
        clear hRl
        have cM := Mark_S hI.rep
        unfold ptr at cM
        rw [HRl.out] at cM
        go_wp2_with (go_at_call 17; refine cM.mono ?_; rintro e w2 ⟨rfl, hb⟩; have kk := (hI.bel.block _ (by omega)).trans key; have vv := (hI.bel.block _ (by omega)).trans val; replace kk := (hb.block _ (by have := hI.bel.size; omega)).trans kk; replace vv := (hb.block _ (by have := hI.bel.size; omega)).trans vv; replace hI := hI.below hb; clear hb cM; obtain ⟨x0, x1, x2, x3⟩ := cells4w kk; obtain ⟨y0, y1, y2, y3⟩ := cells4w vv)
        have hp : okP (a, k) := ⟨ha, hk⟩
        have hKw := fun (w : World) (hb : Below wa.heap.size wa w) (K : Kw) (hK : K ∈ L) => (hKok.out K hK).below hb
        replace hKw := Lib.hid hKw
        rcases oriN_err L a k with hoe | hoe
        focus
          have hlo : loaN L R a k = oriN L a k := by unfold loaN; rw [hsv]
          have cS := Save_ok hI.rep (Nat.le_trans hW3 hI.bel.size) (hKT.out.below hI.bel hW3) (hKw.out _ hI.bel) hp v (by rw [HRl.out]; omega) (by omega) (by rw [hlo]; exact hoe)
          unfold ptr at cS
          clear hlo hoe
          go_wp2_with (go_at_call 21; refine cS.mono ?_; intro e w3 hm; obtain ⟨rfl, sz3, F3, hI3, hkeep3⟩ := hI.step hm; clear hm cS x0 x1 x2 x3 y0 y1 y2 y3; have kk := (hI3.bel.block W.heap.size (by omega)).trans key; have vv := (hI3.bel.block (W.heap.size + 1) (by omega)).trans val; obtain ⟨x0, x1, x2, x3⟩ := cells4w kk; obtain ⟨y0, y1, y2, y3⟩ := cells4w vv; have zk : W.heap.size < w3.heap.size := (by have := hI3.bel.size; omega); have zv : W.heap.size + 1 < w3.heap.size := (by have := hI3.bel.size; omega); clear kk vv)
          have cL := Load_all hI3.rep (Nat.le_trans hW3 hI3.bel.size) (hKT.out.below hI3.bel hW3) (hKw.out _ hI3.bel) hp
          have hl1 : loaN L (.save (a, k) v :: R) a k = (v, 0) := by unfold loaN svF; rw [if_pos rfl]
          rw [hl1] at cL
          clear hl1
          dsimp only at cL
          unfold ptr at cL
          go_wp2_with (go_at_call 14; refine cL.mono ?_; rintro e w4 ⟨rfl, hb4⟩; have hI4 := hI3.below hb4; clear cL zk zv x0 x1 x2 x3 y0 y1 y2 y3; have kk := (hI4.bel.block W.heap.size (by omega)).trans key; have vv := (hI4.bel.block (W.heap.size + 1) (by omega)).trans val; obtain ⟨x0, x1, x2, x3⟩ := cells4w kk; obtain ⟨y0, y1, y2, y3⟩ := cells4w vv; have zk : W.heap.size < w4.heap.size := (by have := hI4.bel.size; omega); have zv : W.heap.size + 1 < w4.heap.size := (by have := hI4.bel.size; omega); clear kk vv)
          have sz4 := hb4.size
          have box17 : (w4.alloc (.cells #[.int .u64 (lb v 0 : Nat), .int .u64 (lb v 1 : Nat), .int .u64 (lb v 2 : Nat), .int .u64 (lb v 3 : Nat)] 25)).heap[w4.heap.size]? = some (.cells #[.int .u64 (lb v 0 : Nat), .int .u64 (lb v 1 : Nat), .int .u64 (lb v 2 : Nat), .int .u64 (lb v 3 : Nat)] 25 (0, 0)) := heap_new rfl
          have hq : w4.heap.size < (w4.alloc (.cells #[.int .u64 (lb v 0 : Nat), .int .u64 (lb v 1 : Nat), .int .u64 (lb v 2 : Nat), .int .u64 (lb v 3 : Nat)] 25)).heap.size := by simp
          have hnF : ¬ F3 w4.heap.size := fun h => by have := hI3.rep.flt _ h; omega
          replace hI4 := hI4.below ((Below.refl w4.heap.size w4).alloc (Nat.le_refl _) (.cells #[.int .u64 (lb v 0 : Nat), .int .u64 (lb v 1 : Nat), .int .u64 (lb v 2 : Nat), .int .u64 (lb v 3 : Nat)] 25))
          clear hb4 zk zv x0 x1 x2 x3 y0 y1 y2 y3
          generalize w4.alloc (.cells #[.int .u64 (lb v 0 : Nat), .int .u64 (lb v 1 : Nat), .int .u64 (lb v 2 : Nat), .int .u64 (lb v 3 : Nat)] 25) = w5 at *
          generalize w4.heap.size = q17 at *
          have cB := SaveBrief_S hI4.rep hp v (by have := HRl.out; simp only [List.length_cons]; omega) (by omega)
          unfold ptr at cB
          go_wp2_with (go_at_call 22; refine cB.mono ?_; intro e w6 hm; obtain ⟨rfl, sz6, F6, hI6, hkeep6⟩ := hI4.step hm; have hnF6 := (hkeep6 q17 hq hnF).1; replace box17 := (hkeep6 q17 hq hnF).2.trans box17; replace hq := Nat.lt_of_lt_of_le hq sz6; clear hm cB hkeep6; obtain ⟨b0', b1', b2', b3'⟩ := cells4w box17; have kk := (hI6.bel.block W.heap.size (by omega)).trans key; have vv := (hI6.bel.block (W.heap.size + 1) (by omega)).trans val; obtain ⟨x0, x1, x2, x3⟩ := cells4w kk; obtain ⟨y0, y1, y2, y3⟩ := cells4w vv; have zk : W.heap.size < w6.heap.size := (by have := hI6.bel.size; omega); have zv : W.heap.size + 1 < w6.heap.size := (by have := hI6.bel.size; omega); clear kk vv)
          have cM2 := Mark_S hI6.rep
          have hln2 : (Chg.brief (a, k) v :: .save (a, k) v :: R).length = l.length + 2 := by simp only [List.length_cons, HRl.out]
          rw [hln2] at cM2
          unfold ptr at cM2
          have hbr : brF (Chg.brief (a, k) v :: .save (a, k) v :: R) (a, k) = some v := by unfold brF; rw [if_pos rfl]
          have hwm2 : wmF (Chg.brief (a, k) v :: .save (a, k) v :: R) a = false := hwm
          have hce2 : ceF (Chg.brief (a, k) v :: .save (a, k) v :: R) (a, k) = false := hce
          replace hln2 : (Chg.brief (a, k) v :: .save (a, k) v :: R).length ≤ 1000 := by rw [hln2]; omega
          go_wp2_with (go_at_call 17; refine cM2.mono ?_; rintro e w7 ⟨rfl, hb7⟩; have hI7 := hI6.below hb7; clear cM2 x0 x1 x2 x3 y0 y1 y2 y3 zk zv hb7)
          clear hI6 box17 b0' b1' b2' b3' hnF6 hq hI hI3 hI4 hkeep3 hnF hsv hwm hce hp HRl
          obtain ⟨R2, hR2⟩ : ∃ R2, R2 = Chg.brief (a, k) v :: .save (a, k) v :: R := ⟨_, rfl⟩
          rw [← hR2] at hI7 hbr hwm2 hce2 hln2
          clear hR2
          refine wp_flowU (fun k => ([1, 1, 1, 1, 1, 2, 0, 1, 1, 1, 1, 1, 2, 1, 1, 1, 1, 1, 2, 1, 1, 1, 1, 1, 2, 1, 1, 1, 1, 1, 1, 2, 1, 1] : List Nat).getD k 1) (lqR wa b (N + 1 + 1) L (lqS R2 a (a, k))) (fun _ => True) (0) (⟨F6, hI7.rep.same (Nat.le_refl _) (fun _ _ => rfl), hI7.low, hI7.bel.drew⟩) trivial (by kernel_rfl) (by kernel_rfl) ?_
          (refine flowU_readE rfl rfl (fun K hK => ?_); apply Exists.intro; apply And.intro; (focus (intro w' hR; obtain ⟨F', hI'⟩ := hR; have kk := (hI'.bel.block W.heap.size (by omega)).trans key; have vv := (hI'.bel.block (W.heap.size + 1) (by omega)).trans val; obtain ⟨x0, x1, x2, x3⟩ := cells4w kk; obtain ⟨y0, y1, y2, y3⟩ := cells4w vv; clear kk vv hI'; go_simp; (try go_bits); exact rfl)); go_simp; (try go_bits); refine hK _ ?_; clear hK K)
          (refine flowU_readE rfl rfl (fun K hK => ?_); apply Exists.intro; apply And.intro; (focus (intro w' hR; obtain ⟨F', hI'⟩ := hR; have kk := (hI'.bel.block W.heap.size (by omega)).trans key; have vv := (hI'.bel.block (W.heap.size + 1) (by omega)).trans val; obtain ⟨x0, x1, x2, x3⟩ := cells4w kk; obtain ⟨y0, y1, y2, y3⟩ := cells4w vv; clear kk vv hI'; go_simp; (try go_bits); exact rfl)); go_simp; (try go_bits); refine hK _ ?_; clear hK K)
          first | (refine flowU_skip rfl (fun K hK => ?_); go_simp; (try go_bits); refine hK _ ?_; clear hK K) | (refine flowU_readE rfl rfl (fun K hK => ?_); apply Exists.intro; apply And.intro; (focus (intro w' hR; obtain ⟨F', hI'⟩ := hR; have kk := (hI'.bel.block W.heap.size (by omega)).trans key; have vv := (hI'.bel.block (W.heap.size + 1) (by omega)).trans val; obtain ⟨x0, x1, x2, x3⟩ := cells4w kk; obtain ⟨y0, y1, y2, y3⟩ := cells4w vv; clear kk vv hI'; go_simp; (try go_bits); exact rfl)); go_simp; (try go_bits); refine hK _ ?_; clear hK K)
          first | (refine flowU_skip rfl (fun K hK => ?_); go_simp; (try go_bits); refine hK _ ?_; clear hK K) | (refine flowU_readE rfl rfl (fun K hK => ?_); apply Exists.intro; apply And.intro; (focus (intro w' hR; obtain ⟨F', hI'⟩ := hR; have kk := (hI'.bel.block W.heap.size (by omega)).trans key; have vv := (hI'.bel.block (W.heap.size + 1) (by omega)).trans val; obtain ⟨x0, x1, x2, x3⟩ := cells4w kk; obtain ⟨y0, y1, y2, y3⟩ := cells4w vv; clear kk vv hI'; go_simp; (try go_bits); exact rfl)); go_simp; (try go_bits); refine hK _ ?_; clear hK K)
          first | (refine flowU_skip rfl (fun K hK => ?_); go_simp; (try go_bits); refine hK _ ?_; clear hK K) | (refine flowU_readE rfl rfl (fun K hK => ?_); apply Exists.intro; apply And.intro; (focus (intro w' hR; obtain ⟨F', hI'⟩ := hR; have kk := (hI'.bel.block W.heap.size (by omega)).trans key; have vv := (hI'.bel.block (W.heap.size + 1) (by omega)).trans val; obtain ⟨x0, x1, x2, x3⟩ := cells4w kk; obtain ⟨y0, y1, y2, y3⟩ := cells4w vv; clear kk vv hI'; go_simp; (try go_bits); exact rfl)); go_simp; (try go_bits); refine hK _ ?_; clear hK K)
          refine flowU_step (fun u s => u = .agg #[.int .u64 (lb v 0 : Nat), .int .u64 (lb v 1 : Nat), .int .u64 (lb v 2 : Nat), .int .u64 (lb v 3 : Nat)] ∧ s = 0) (by decide) rfl ⟨_, 0, rfl, rfl⟩ (fun w' hR => ?_) (fun _ _ _ _ _ => trivial) (fun K hK v s2 hs2 => ?_)
          focus
            obtain ⟨F', hI'⟩ := hR
            have cM := Brief_S hI'.rep ⟨ha, hk⟩
            rw [show brF (lqS R2 a (a, k) 0) (a, k) = some v from hbr] at cM
            unfold ptr at cM
            go_simp
            refine cM.mono ?_
            rintro e w3 ⟨rfl, hb3⟩
            exact ⟨_, rfl, 0, ⟨rfl, rfl⟩, F', hI'.below hb3⟩
          obtain ⟨rfl, rfl⟩ := hs2
          (go_simp; refine hK _ _ ?_; clear hK K)
          first | (refine flowU_skip rfl (fun K hK => ?_); go_simp; (try go_bits); refine hK _ ?_; clear hK K) | (refine flowU_lateE rfl rfl (fun K hK => ?_); apply Exists.intro; apply And.intro; (focus (intro s0 w' hC hR; obtain ⟨F', hI'⟩ := hR; have kk := (hI'.bel.block W.heap.size (by omega)).trans key; have vv := (hI'.bel.block (W.heap.size + 1) (by omega)).trans val; obtain ⟨x0, x1, x2, x3⟩ := cells4w kk; obtain ⟨y0, y1, y2, y3⟩ := cells4w vv; clear kk vv hI'; go_simp; (try go_bits); exact rfl)); go_simp; (try go_bits); refine hK _ ?_; clear hK K)
          first | (refine flowU_skip rfl (fun K hK => ?_); go_simp; (try go_bits); refine hK _ ?_; clear hK K) | (refine flowU_readE rfl rfl (fun K hK => ?_); apply Exists.intro; apply And.intro; (focus (intro w' hR; obtain ⟨F', hI'⟩ := hR; have kk := (hI'.bel.block W.heap.size (by omega)).trans key; have vv := (hI'.bel.block (W.heap.size + 1) (by omega)).trans val; obtain ⟨x0, x1, x2, x3⟩ := cells4w kk; obtain ⟨y0, y1, y2, y3⟩ := cells4w vv; clear kk vv hI'; go_simp; (try go_bits); exact rfl)); go_simp; (try go_bits); refine hK _ ?_; clear hK K)
          (refine flowU_readE rfl rfl (fun K hK => ?_); apply Exists.intro; apply And.intro; (focus (intro w' hR; obtain ⟨F', hI'⟩ := hR; have kk := (hI'.bel.block W.heap.size (by omega)).trans key; have vv := (hI'.bel.block (W.heap.size + 1) (by omega)).trans val; obtain ⟨x0, x1, x2, x3⟩ := cells4w kk; obtain ⟨y0, y1, y2, y3⟩ := cells4w vv; clear kk vv hI'; go_simp; (try go_bits); exact rfl)); go_simp; (try go_bits); refine hK _ ?_; clear hK K)
          (refine flowU_readE rfl rfl (fun K hK => ?_); apply Exists.intro; apply And.intro; (focus (intro w' hR; obtain ⟨F', hI'⟩ := hR; have kk := (hI'.bel.block W.heap.size (by omega)).trans key; have vv := (hI'.bel.block (W.heap.size + 1) (by omega)).trans val; obtain ⟨x0, x1, x2, x3⟩ := cells4w kk; obtain ⟨y0, y1, y2, y3⟩ := cells4w vv; clear kk vv hI'; go_simp; (try go_bits); exact rfl)); go_simp; (try go_bits); refine hK _ ?_; clear hK K)
          first | (refine flowU_skip rfl (fun K hK => ?_); go_simp; (try go_bits); refine hK _ ?_; clear hK K) | (refine flowU_readE rfl rfl (fun K hK => ?_); apply Exists.intro; apply And.intro; (focus (intro w' hR; obtain ⟨F', hI'⟩ := hR; have kk := (hI'.bel.block W.heap.size (by omega)).trans key; have vv := (hI'.bel.block (W.heap.size + 1) (by omega)).trans val; obtain ⟨x0, x1, x2, x3⟩ := cells4w kk; obtain ⟨y0, y1, y2, y3⟩ := cells4w vv; clear kk vv hI'; go_simp; (try go_bits); exact rfl)); go_simp; (try go_bits); refine hK _ ?_; clear hK K)
          first | (refine flowU_skip rfl (fun K hK => ?_); go_simp; (try go_bits); refine hK _ ?_; clear hK K) | (refine flowU_readE rfl rfl (fun K hK => ?_); apply Exists.intro; apply And.intro; (focus (intro w' hR; obtain ⟨F', hI'⟩ := hR; have kk := (hI'.bel.block W.heap.size (by omega)).trans key; have vv := (hI'.bel.block (W.heap.size + 1) (by omega)).trans val; obtain ⟨x0, x1, x2, x3⟩ := cells4w kk; obtain ⟨y0, y1, y2, y3⟩ := cells4w vv; clear kk vv hI'; go_simp; (try go_bits); exact rfl)); go_simp; (try go_bits); refine hK _ ?_; clear hK K)
          refine flowU_step (fun u s => u = .bool false ∧ s = 1) (by decide) rfl ⟨_, 1, rfl, rfl⟩ (fun w' hR => ?_) (fun _ _ _ _ _ => trivial) (fun K hK v s2 hs2 => ?_)
          focus
            obtain ⟨F', hI'⟩ := hR
            have cM := (Warm_new hI'.rep ha hwm2 (by have := lqS_len R2 a (a, k) 0; omega) (by omega))
            unfold ptr at cM
            go_simp
            refine cM.mono ?_
            intro e w3 hm
            obtain ⟨rfl, sz', F2, hI2, hkeep⟩ := hI'.step hm
            exact ⟨_, rfl, 1, ⟨rfl, rfl⟩, F2, hI2⟩
          obtain ⟨rfl, rfl⟩ := hs2
          (go_simp; refine hK _ _ ?_; clear hK K)
          first | (refine flowU_skip rfl (fun K hK => ?_); go_simp; (try go_bits); refine hK _ ?_; clear hK K) | (refine flowU_readE rfl rfl (fun K hK => ?_); apply Exists.intro; apply And.intro; (focus (intro w' hR; obtain ⟨F', hI'⟩ := hR; have kk := (hI'.bel.block W.heap.size (by omega)).trans key; have vv := (hI'.bel.block (W.heap.size + 1) (by omega)).trans val; obtain ⟨x0, x1, x2, x3⟩ := cells4w kk; obtain ⟨y0, y1, y2, y3⟩ := cells4w vv; clear kk vv hI'; go_simp; (try go_bits); exact rfl)); go_simp; (try go_bits); refine hK _ ?_; clear hK K)
          (refine flowU_readE rfl rfl (fun K hK => ?_); apply Exists.intro; apply And.intro; (focus (intro w' hR; obtain ⟨F', hI'⟩ := hR; have kk := (hI'.bel.block W.heap.size (by omega)).trans key; have vv := (hI'.bel.block (W.heap.size + 1) (by omega)).trans val; obtain ⟨x0, x1, x2, x3⟩ := cells4w kk; obtain ⟨y0, y1, y2, y3⟩ := cells4w vv; clear kk vv hI'; go_simp; (try go_bits); exact rfl)); go_simp; (try go_bits); refine hK _ ?_; clear hK K)
          (refine flowU_readE rfl rfl (fun K hK => ?_); apply Exists.intro; apply And.intro; (focus (intro w' hR; obtain ⟨F', hI'⟩ := hR; have kk := (hI'.bel.block W.heap.size (by omega)).trans key; have vv := (hI'.bel.block (W.heap.size + 1) (by omega)).trans val; obtain ⟨x0, x1, x2, x3⟩ := cells4w kk; obtain ⟨y0, y1, y2, y3⟩ := cells4w vv; clear kk vv hI'; go_simp; (try go_bits); exact rfl)); go_simp; (try go_bits); refine hK _ ?_; clear hK K)
          first | (refine flowU_skip rfl (fun K hK => ?_); go_simp; (try go_bits); refine hK _ ?_; clear hK K) | (refine flowU_readE rfl rfl (fun K hK => ?_); apply Exists.intro; apply And.intro; (focus (intro w' hR; obtain ⟨F', hI'⟩ := hR; have kk := (hI'.bel.block W.heap.size (by omega)).trans key; have vv := (hI'.bel.block (W.heap.size + 1) (by omega)).trans val; obtain ⟨x0, x1, x2, x3⟩ := cells4w kk; obtain ⟨y0, y1, y2, y3⟩ := cells4w vv; clear kk vv hI'; go_simp; (try go_bits); exact rfl)); go_simp; (try go_bits); refine hK _ ?_; clear hK K)
          first | (refine flowU_skip rfl (fun K hK => ?_); go_simp; (try go_bits); refine hK _ ?_; clear hK K) | (refine flowU_readE rfl rfl (fun K hK => ?_); apply Exists.intro; apply And.intro; (focus (intro w' hR; obtain ⟨F', hI'⟩ := hR; have kk := (hI'.bel.block W.heap.size (by omega)).trans key; have vv := (hI'.bel.block (W.heap.size + 1) (by omega)).trans val; obtain ⟨x0, x1, x2, x3⟩ := cells4w kk; obtain ⟨y0, y1, y2, y3⟩ := cells4w vv; clear kk vv hI'; go_simp; (try go_bits); exact rfl)); go_simp; (try go_bits); refine hK _ ?_; clear hK K)
          refine flowU_step (fun u s => u = .bool true ∧ s = 2) (by decide) rfl ⟨_, 2, rfl, rfl⟩ (fun w' hR => ?_) (fun _ _ _ _ _ => trivial) (fun K hK v s2 hs2 => ?_)
          focus
            obtain ⟨F', hI'⟩ := hR
            have cM := (Warm_old hI'.rep ha (lqS_wm _ _ _))
            unfold ptr at cM
            go_simp
            refine cM.mono ?_
            intro e w3 hm
            obtain ⟨rfl, sz', F2, hI2, hkeep⟩ := hI'.step hm
            exact ⟨_, rfl, 2, ⟨rfl, rfl⟩, F2, hI2⟩
          obtain ⟨rfl, rfl⟩ := hs2
          (go_simp; refine hK _ _ ?_; clear hK K)
          (refine flowU_readE rfl rfl (fun K hK => ?_); apply Exists.intro; apply And.intro; (focus (intro w' hR; obtain ⟨F', hI'⟩ := hR; have kk := (hI'.bel.block W.heap.size (by omega)).trans key; have vv := (hI'.bel.block (W.heap.size + 1) (by omega)).trans val; obtain ⟨x0, x1, x2, x3⟩ := cells4w kk; obtain ⟨y0, y1, y2, y3⟩ := cells4w vv; clear kk vv hI'; go_simp; (try go_bits); exact rfl)); go_simp; (try go_bits); refine hK _ ?_; clear hK K)
          (refine flowU_readE rfl rfl (fun K hK => ?_); apply Exists.intro; apply And.intro; (focus (intro w' hR; obtain ⟨F', hI'⟩ := hR; have kk := (hI'.bel.block W.heap.size (by omega)).trans key; have vv := (hI'.bel.block (W.heap.size + 1) (by omega)).trans val; obtain ⟨x0, x1, x2, x3⟩ := cells4w kk; obtain ⟨y0, y1, y2, y3⟩ := cells4w vv; clear kk vv hI'; go_simp; (try go_bits); exact rfl)); go_simp; (try go_bits); refine hK _ ?_; clear hK K)
          first | (refine flowU_skip rfl (fun K hK => ?_); go_simp; (try go_bits); refine hK _ ?_; clear hK K) | (refine flowU_readE rfl rfl (fun K hK => ?_); apply Exists.intro; apply And.intro; (focus (intro w' hR; obtain ⟨F', hI'⟩ := hR; have kk := (hI'.bel.block W.heap.size (by omega)).trans key; have vv := (hI'.bel.block (W.heap.size + 1) (by omega)).trans val; obtain ⟨x0, x1, x2, x3⟩ := cells4w kk; obtain ⟨y0, y1, y2, y3⟩ := cells4w vv; clear kk vv hI'; go_simp; (try go_bits); exact rfl)); go_simp; (try go_bits); refine hK _ ?_; clear hK K)
          first | (refine flowU_skip rfl (fun K hK => ?_); go_simp; (try go_bits); refine hK _ ?_; clear hK K) | (refine flowU_readE rfl rfl (fun K hK => ?_); apply Exists.intro; apply And.intro; (focus (intro w' hR; obtain ⟨F', hI'⟩ := hR; have kk := (hI'.bel.block W.heap.size (by omega)).trans key; have vv := (hI'.bel.block (W.heap.size + 1) (by omega)).trans val; obtain ⟨x0, x1, x2, x3⟩ := cells4w kk; obtain ⟨y0, y1, y2, y3⟩ := cells4w vv; clear kk vv hI'; go_simp; (try go_bits); exact rfl)); go_simp; (try go_bits); refine hK _ ?_; clear hK K)
          first | (refine flowU_skip rfl (fun K hK => ?_); go_simp; (try go_bits); refine hK _ ?_; clear hK K) | (refine flowU_readE rfl rfl (fun K hK => ?_); apply Exists.intro; apply And.intro; (focus (intro w' hR; obtain ⟨F', hI'⟩ := hR; have kk := (hI'.bel.block W.heap.size (by omega)).trans key; have vv := (hI'.bel.block (W.heap.size + 1) (by omega)).trans val; obtain ⟨x0, x1, x2, x3⟩ := cells4w kk; obtain ⟨y0, y1, y2, y3⟩ := cells4w vv; clear kk vv hI'; go_simp; (try go_bits); exact rfl)); go_simp; (try go_bits); refine hK _ ?_; clear hK K)
          refine flowU_step (fun u s => u = .bool false ∧ s = 3) (by decide) rfl ⟨_, 3, rfl, rfl⟩ (fun w' hR => ?_) (fun _ _ _ _ _ => trivial) (fun K hK v s2 hs2 => ?_)
          focus
            obtain ⟨F', hI'⟩ := hR
            have cM := (WarmCell_new hI'.rep ⟨ha, hk⟩ hce2 (by have := lqS_len R2 a (a, k) 2; omega) (by omega))
            unfold ptr at cM
            go_simp
            refine cM.mono ?_
            intro e w3 hm
            obtain ⟨rfl, sz', F2, hI2, hkeep⟩ := hI'.step hm
            exact ⟨_, rfl, 3, ⟨rfl, rfl⟩, F2, hI2⟩
          obtain ⟨rfl, rfl⟩ := hs2
          (go_simp; refine hK _ _ ?_; clear hK K)
          first | (refine flowU_skip rfl (fun K hK => ?_); go_simp; (try go_bits); refine hK _ ?_; clear hK K) | (refine flowU_readE rfl rfl (fun K hK => ?_); apply Exists.intro; apply And.intro; (focus (intro w' hR; obtain ⟨F', hI'⟩ := hR; have kk := (hI'.bel.block W.heap.size (by omega)).trans key; have vv := (hI'.bel.block (W.heap.size + 1) (by omega)).trans val; obtain ⟨x0, x1, x2, x3⟩ := cells4w kk; obtain ⟨y0, y1, y2, y3⟩ := cells4w vv; clear kk vv hI'; go_simp; (try go_bits); exact rfl)); go_simp; (try go_bits); refine hK _ ?_; clear hK K)
          (refine flowU_readE rfl rfl (fun K hK => ?_); apply Exists.intro; apply And.intro; (focus (intro w' hR; obtain ⟨F', hI'⟩ := hR; have kk := (hI'.bel.block W.heap.size (by omega)).trans key; have vv := (hI'.bel.block (W.heap.size + 1) (by omega)).trans val; obtain ⟨x0, x1, x2, x3⟩ := cells4w kk; obtain ⟨y0, y1, y2, y3⟩ := cells4w vv; clear kk vv hI'; go_simp; (try go_bits); exact rfl)); go_simp; (try go_bits); refine hK _ ?_; clear hK K)
          (refine flowU_readE rfl rfl (fun K hK => ?_); apply Exists.intro; apply And.intro; (focus (intro w' hR; obtain ⟨F', hI'⟩ := hR; have kk := (hI'.bel.block W.heap.size (by omega)).trans key; have vv := (hI'.bel.block (W.heap.size + 1) (by omega)).trans val; obtain ⟨x0, x1, x2, x3⟩ := cells4w kk; obtain ⟨y0, y1, y2, y3⟩ := cells4w vv; clear kk vv hI'; go_simp; (try go_bits); exact rfl)); go_simp; (try go_bits); refine hK _ ?_; clear hK K)
          first | (refine flowU_skip rfl (fun K hK => ?_); go_simp; (try go_bits); refine hK _ ?_; clear hK K) | (refine flowU_readE rfl rfl (fun K hK => ?_); apply Exists.intro; apply And.intro; (focus (intro w' hR; obtain ⟨F', hI'⟩ := hR; have kk := (hI'.bel.block W.heap.size (by omega)).trans key; have vv := (hI'.bel.block (W.heap.size + 1) (by omega)).trans val; obtain ⟨x0, x1, x2, x3⟩ := cells4w kk; obtain ⟨y0, y1, y2, y3⟩ := cells4w vv; clear kk vv hI'; go_simp; (try go_bits); exact rfl)); go_simp; (try go_bits); refine hK _ ?_; clear hK K)
          first | (refine flowU_skip rfl (fun K hK => ?_); go_simp; (try go_bits); refine hK _ ?_; clear hK K) | (refine flowU_readE rfl rfl (fun K hK => ?_); apply Exists.intro; apply And.intro; (focus (intro w' hR; obtain ⟨F', hI'⟩ := hR; have kk := (hI'.bel.block W.heap.size (by omega)).trans key; have vv := (hI'.bel.block (W.heap.size + 1) (by omega)).trans val; obtain ⟨x0, x1, x2, x3⟩ := cells4w kk; obtain ⟨y0, y1, y2, y3⟩ := cells4w vv; clear kk vv hI'; go_simp; (try go_bits); exact rfl)); go_simp; (try go_bits); refine hK _ ?_; clear hK K)
          first | (refine flowU_skip rfl (fun K hK => ?_); go_simp; (try go_bits); refine hK _ ?_; clear hK K) | (refine flowU_readE rfl rfl (fun K hK => ?_); apply Exists.intro; apply And.intro; (focus (intro w' hR; obtain ⟨F', hI'⟩ := hR; have kk := (hI'.bel.block W.heap.size (by omega)).trans key; have vv := (hI'.bel.block (W.heap.size + 1) (by omega)).trans val; obtain ⟨x0, x1, x2, x3⟩ := cells4w kk; obtain ⟨y0, y1, y2, y3⟩ := cells4w vv; clear kk vv hI'; go_simp; (try go_bits); exact rfl)); go_simp; (try go_bits); refine hK _ ?_; clear hK K)
          refine flowU_step (fun u s => u = .bool true ∧ s = 4) (by decide) rfl ⟨_, 4, rfl, rfl⟩ (fun w' hR => ?_) (fun _ _ _ _ _ => trivial) (fun K hK v s2 hs2 => ?_)
          focus
            obtain ⟨F', hI'⟩ := hR
            have cM := (WarmCell_old hI'.rep ⟨ha, hk⟩ (lqS_ce _ _ _))
            unfold ptr at cM
            go_simp
            refine cM.mono ?_
            intro e w3 hm
            obtain ⟨rfl, sz', F2, hI2, hkeep⟩ := hI'.step hm
            exact ⟨_, rfl, 4, ⟨rfl, rfl⟩, F2, hI2⟩
          obtain ⟨rfl, rfl⟩ := hs2
          (go_simp; refine hK _ _ ?_; clear hK K)
          (refine flowU_readE rfl rfl (fun K hK => ?_); apply Exists.intro; apply And.intro; (focus (intro w' hR; obtain ⟨F', hI'⟩ := hR; have kk := (hI'.bel.block W.heap.size (by omega)).trans key; have vv := (hI'.bel.block (W.heap.size + 1) (by omega)).trans val; obtain ⟨x0, x1, x2, x3⟩ := cells4w kk; obtain ⟨y0, y1, y2, y3⟩ := cells4w vv; clear kk vv hI'; go_simp; (try go_bits); exact rfl)); go_simp; (try go_bits); refine hK _ ?_; clear hK K)
          (refine flowU_readE rfl rfl (fun K hK => ?_); apply Exists.intro; apply And.intro; (focus (intro w' hR; obtain ⟨F', hI'⟩ := hR; have kk := (hI'.bel.block W.heap.size (by omega)).trans key; have vv := (hI'.bel.block (W.heap.size + 1) (by omega)).trans val; obtain ⟨x0, x1, x2, x3⟩ := cells4w kk; obtain ⟨y0, y1, y2, y3⟩ := cells4w vv; clear kk vv hI'; go_simp; (try go_bits); exact rfl)); go_simp; (try go_bits); refine hK _ ?_; clear hK K)
          refine flowU_nil ?_
          intro w8 hR8
          obtain ⟨F8, hI8⟩ := hR8
          go_wp2
          go_ret
          exact ⟨rfl, b0.trans (hI8.bel.mono (by omega))⟩
        focus
          have hlo : loaN L R a k = oriN L a k := by unfold loaN; rw [hsv]
          have cS := Save_no hI.rep (Nat.le_trans hW3 hI.bel.size) (hKT.out.below hI.bel hW3) (hKw.out _ hI.bel) hp v (by rw [hlo]; exact hoe)
          unfold ptr at cS
          go_wp2_with (go_at_call 21; refine cS.mono ?_; intro e w3 hm; obtain ⟨rfl, sz3, F3, hI3, hkeep3⟩ := hI.step hm; clear hm cS x0 x1 x2 x3 y0 y1 y2 y3; have kk := (hI3.bel.block W.heap.size (by omega)).trans key; have vv := (hI3.bel.block (W.heap.size + 1) (by omega)).trans val; obtain ⟨x0, x1, x2, x3⟩ := cells4w kk; obtain ⟨y0, y1, y2, y3⟩ := cells4w vv; have zk : W.heap.size < w3.heap.size := (by have := hI3.bel.size; omega); have zv : W.heap.size + 1 < w3.heap.size := (by have := hI3.bel.size; omega); clear kk vv)
          have cL := Load_all hI3.rep (Nat.le_trans hW3 hI3.bel.size) (hKT.out.below hI3.bel hW3) (hKw.out _ hI3.bel) hp
          have hl1 : loaN L R a k = ((oriN L a k).1, 190) := hlo.trans (Prod.ext rfl hoe)
          rw [hl1] at cL
          clear hl1 hlo hoe
          generalize (oriN L a k).1 = ov at *
          dsimp only at cL
          unfold ptr at cL
          go_wp2_with (go_at_call 14; refine cL.mono ?_; rintro e w4 ⟨rfl, hb4⟩; have hI4 := hI3.below hb4; clear cL zk zv x0 x1 x2 x3 y0 y1 y2 y3; have kk := (hI4.bel.block W.heap.size (by omega)).trans key; have vv := (hI4.bel.block (W.heap.size + 1) (by omega)).trans val; obtain ⟨x0, x1, x2, x3⟩ := cells4w kk; obtain ⟨y0, y1, y2, y3⟩ := cells4w vv; have zk : W.heap.size < w4.heap.size := (by have := hI4.bel.size; omega); have zv : W.heap.size + 1 < w4.heap.size := (by have := hI4.bel.size; omega); clear kk vv)
          have sz4 := hb4.size
          have box17 : (w4.alloc (.cells #[.int .u64 (lb ov 0 : Nat), .int .u64 (lb ov 1 : Nat), .int .u64 (lb ov 2 : Nat), .int .u64 (lb ov 3 : Nat)] 25)).heap[w4.heap.size]? = some (.cells #[.int .u64 (lb ov 0 : Nat), .int .u64 (lb ov 1 : Nat), .int .u64 (lb ov 2 : Nat), .int .u64 (lb ov 3 : Nat)] 25 (0, 0)) := heap_new rfl
          have hq : w4.heap.size < (w4.alloc (.cells #[.int .u64 (lb ov 0 : Nat), .int .u64 (lb ov 1 : Nat), .int .u64 (lb ov 2 : Nat), .int .u64 (lb ov 3 : Nat)] 25)).heap.size := by simp
          have hnF : ¬ F3 w4.heap.size := fun h => by have := hI3.rep.flt _ h; omega
          replace hI4 := hI4.below ((Below.refl w4.heap.size w4).alloc (Nat.le_refl _) (.cells #[.int .u64 (lb ov 0 : Nat), .int .u64 (lb ov 1 : Nat), .int .u64 (lb ov 2 : Nat), .int .u64 (lb ov 3 : Nat)] 25))
          clear hb4 zk zv x0 x1 x2 x3 y0 y1 y2 y3
          generalize w4.alloc (.cells #[.int .u64 (lb ov 0 : Nat), .int .u64 (lb ov 1 : Nat), .int .u64 (lb ov 2 : Nat), .int .u64 (lb ov 3 : Nat)] 25) = w5 at *
          generalize w4.heap.size = q17 at *
          have cB := SaveBrief_S hI4.rep hp v (by rw [HRl.out]; omega) (by omega)
          unfold ptr at cB
          go_wp2_with (go_at_call 22; refine cB.mono ?_; intro e w6 hm; obtain ⟨rfl, sz6, F6, hI6, hkeep6⟩ := hI4.step hm; have hnF6 := (hkeep6 q17 hq hnF).1; replace box17 := (hkeep6 q17 hq hnF).2.trans box17; replace hq := Nat.lt_of_lt_of_le hq sz6; clear hm cB hkeep6; obtain ⟨b0', b1', b2', b3'⟩ := cells4w box17; have kk := (hI6.bel.block W.heap.size (by omega)).trans key; have vv := (hI6.bel.block (W.heap.size + 1) (by omega)).trans val; obtain ⟨x0, x1, x2, x3⟩ := cells4w kk; obtain ⟨y0, y1, y2, y3⟩ := cells4w vv; have zk : W.heap.size < w6.heap.size := (by have := hI6.bel.size; omega); have zv : W.heap.size + 1 < w6.heap.size := (by have := hI6.bel.size; omega); clear kk vv)
          have cM2 := Mark_S hI6.rep
          have hln2 : (Chg.brief (a, k) v :: R).length = l.length + 1 := by simp only [List.length_cons, HRl.out]
          rw [hln2] at cM2
          unfold ptr at cM2
          have hbr : brF (Chg.brief (a, k) v :: R) (a, k) = some v := by unfold brF; rw [if_pos rfl]
          have hwm2 : wmF (Chg.brief (a, k) v :: R) a = false := hwm
          have hce2 : ceF (Chg.brief (a, k) v :: R) (a, k) = false := hce
          replace hln2 : (Chg.brief (a, k) v :: R).length ≤ 1000 := by rw [hln2]; omega
          go_wp2_with (go_at_call 17; refine cM2.mono ?_; rintro e w7 ⟨rfl, hb7⟩; have hI7 := hI6.below hb7; clear cM2 x0 x1 x2 x3 y0 y1 y2 y3 zk zv hb7)
          clear hI6 box17 b0' b1' b2' b3' hnF6 hq hI hI3 hI4 hkeep3 hnF hsv hwm hce hp HRl
          obtain ⟨R2, hR2⟩ : ∃ R2, R2 = Chg.brief (a, k) v :: R := ⟨_, rfl⟩
          rw [← hR2] at hI7 hbr hwm2 hce2 hln2
          clear hR2
          refine wp_flowU (fun k => ([1, 1, 1, 1, 1, 2, 0, 1, 1, 1, 1, 1, 2, 1, 1, 1, 1, 1, 2, 1, 1, 1, 1, 1, 2, 1, 1, 1, 1, 1, 1, 2, 1, 1] : List Nat).getD k 1) (lqR wa b (N + 1 + 1) L (lqS R2 a (a, k))) (fun _ => True) (0) (⟨F6, hI7.rep.same (Nat.le_refl _) (fun _ _ => rfl), hI7.low, hI7.bel.drew⟩) trivial (by kernel_rfl) (by kernel_rfl) ?_
          (refine flowU_readE rfl rfl (fun K hK => ?_); apply Exists.intro; apply And.intro; (focus (intro w' hR; obtain ⟨F', hI'⟩ := hR; have kk := (hI'.bel.block W.heap.size (by omega)).trans key; have vv := (hI'.bel.block (W.heap.size + 1) (by omega)).trans val; obtain ⟨x0, x1, x2, x3⟩ := cells4w kk; obtain ⟨y0, y1, y2, y3⟩ := cells4w vv; clear kk vv hI'; go_simp; (try go_bits); exact rfl)); go_simp; (try go_bits); refine hK _ ?_; clear hK K)
          (refine flowU_readE rfl rfl (fun K hK => ?_); apply Exists.intro; apply And.intro; (focus (intro w' hR; obtain ⟨F', hI'⟩ := hR; have kk := (hI'.bel.block W.heap.size (by omega)).trans key; have vv := (hI'.bel.block (W.heap.size + 1) (by omega)).trans val; obtain ⟨x0, x1, x2, x3⟩ := cells4w kk; obtain ⟨y0, y1, y2, y3⟩ := cells4w vv; clear kk vv hI'; go_simp; (try go_bits); exact rfl)); go_simp; (try go_bits); refine hK _ ?_; clear hK K)
          first | (refine flowU_skip rfl (fun K hK => ?_); go_simp; (try go_bits); refine hK _ ?_; clear hK K) | (refine flowU_readE rfl rfl (fun K hK => ?_); apply Exists.intro; apply And.intro; (focus (intro w' hR; obtain ⟨F', hI'⟩ := hR; have kk := (hI'.bel.block W.heap.size (by omega)).trans key; have vv := (hI'.bel.block (W.heap.size + 1) (by omega)).trans val; obtain ⟨x0, x1, x2, x3⟩ := cells4w kk; obtain ⟨y0, y1, y2, y3⟩ := cells4w vv; clear kk vv hI'; go_simp; (try go_bits); exact rfl)); go_simp; (try go_bits); refine hK _ ?_; clear hK K)
          first | (refine flowU_skip rfl (fun K hK => ?_); go_simp; (try go_bits); refine hK _ ?_; clear hK K) | (refine flowU_readE rfl rfl (fun K hK => ?_); apply Exists.intro; apply And.intro; (focus (intro w' hR; obtain ⟨F', hI'⟩ := hR; have kk := (hI'.bel.block W.heap.size (by omega)).trans key; have vv := (hI'.bel.block (W.heap.size + 1) (by omega)).trans val; obtain ⟨x0, x1, x2, x3⟩ := cells4w kk; obtain ⟨y0, y1, y2, y3⟩ := cells4w vv; clear kk vv hI'; go_simp; (try go_bits); exact rfl)); go_simp; (try go_bits); refine hK _ ?_; clear hK K)
          first | (refine flowU_skip rfl (fun K hK => ?_); go_simp; (try go_bits); refine hK _ ?_; clear hK K) | (refine flowU_readE rfl rfl (fun K hK => ?_); apply Exists.intro; apply And.intro; (focus (intro w' hR; obtain ⟨F', hI'⟩ := hR; have kk := (hI'.bel.block W.heap.size (by omega)).trans key; have vv := (hI'.bel.block (W.heap.size + 1) (by omega)).trans val; obtain ⟨x0, x1, x2, x3⟩ := cells4w kk; obtain ⟨y0, y1, y2, y3⟩ := cells4w vv; clear kk vv hI'; go_simp; (try go_bits); exact rfl)); go_simp; (try go_bits); refine hK _ ?_; clear hK K)
          refine flowU_step (fun u s => u = .agg #[.int .u64 (lb v 0 : Nat), .int .u64 (lb v 1 : Nat), .int .u64 (lb v 2 : Nat), .int .u64 (lb v 3 : Nat)] ∧ s = 0) (by decide) rfl ⟨_, 0, rfl, rfl⟩ (fun w' hR => ?_) (fun _ _ _ _ _ => trivial) (fun K hK v s2 hs2 => ?_)
          focus
            obtain ⟨F', hI'⟩ := hR
            have cM := Brief_S hI'.rep ⟨ha, hk⟩
            rw [show brF (lqS R2 a (a, k) 0) (a, k) = some v from hbr] at cM
            unfold ptr at cM
            go_simp
            refine cM.mono ?_
            rintro e w3 ⟨rfl, hb3⟩
            exact ⟨_, rfl, 0, ⟨rfl, rfl⟩, F', hI'.below hb3⟩
          obtain ⟨rfl, rfl⟩ := hs2
          (go_simp; refine hK _ _ ?_; clear hK K)
          first | (refine flowU_skip rfl (fun K hK => ?_); go_simp; (try go_bits); refine hK _ ?_; clear hK K) | (refine flowU_lateE rfl rfl (fun K hK => ?_); apply Exists.intro; apply And.intro; (focus (intro s0 w' hC hR; obtain ⟨F', hI'⟩ := hR; have kk := (hI'.bel.block W.heap.size (by omega)).trans key; have vv := (hI'.bel.block (W.heap.size + 1) (by omega)).trans val; obtain ⟨x0, x1, x2, x3⟩ := cells4w kk; obtain ⟨y0, y1, y2, y3⟩ := cells4w vv; clear kk vv hI'; go_simp; (try go_bits); exact rfl)); go_simp; (try go_bits); refine hK _ ?_; clear hK K)
          first | (refine flowU_skip rfl (fun K hK => ?_); go_simp; (try go_bits); refine hK _ ?_; clear hK K) | (refine flowU_readE rfl rfl (fun K hK => ?_); apply Exists.intro; apply And.intro; (focus (intro w' hR; obtain ⟨F', hI'⟩ := hR; have kk := (hI'.bel.block W.heap.size (by omega)).trans key; have vv := (hI'.bel.block (W.heap.size + 1) (by omega)).trans val; obtain ⟨x0, x1, x2, x3⟩ := cells4w kk; obtain ⟨y0, y1, y2, y3⟩ := cells4w vv; clear kk vv hI'; go_simp; (try go_bits); exact rfl)); go_simp; (try go_bits); refine hK _ ?_; clear hK K)
          (refine flowU_readE rfl rfl (fun K hK => ?_); apply Exists.intro; apply And.intro; (focus (intro w' hR; obtain ⟨F', hI'⟩ := hR; have kk := (hI'.bel.block W.heap.size (by omega)).trans key; have vv := (hI'.bel.block (W.heap.size + 1) (by omega)).trans val; obtain ⟨x0, x1, x2, x3⟩ := cells4w kk; obtain ⟨y0, y1, y2, y3⟩ := cells4w vv; clear kk vv hI'; go_simp; (try go_bits); exact rfl)); go_simp; (try go_bits); refine hK _ ?_; clear hK K)
          (refine flowU_readE rfl rfl (fun K hK => ?_); apply Exists.intro; apply And.intro; (focus (intro w' hR; obtain ⟨F', hI'⟩ := hR; have kk := (hI'.bel.block W.heap.size (by omega)).trans key; have vv := (hI'.bel.block (W.heap.size + 1) (by omega)).trans val; obtain ⟨x0, x1, x2, x3⟩ := cells4w kk; obtain ⟨y0, y1, y2, y3⟩ := cells4w vv; clear kk vv hI'; go_simp; (try go_bits); exact rfl)); go_simp; (try go_bits); refine hK _ ?_; clear hK K)
          first | (refine flowU_skip rfl (fun K hK => ?_); go_simp; (try go_bits); refine hK _ ?_; clear hK K) | (refine flowU_readE rfl rfl (fun K hK => ?_); apply Exists.intro; apply And.intro; (focus (intro w' hR; obtain ⟨F', hI'⟩ := hR; have kk := (hI'.bel.block W.heap.size (by omega)).trans key; have vv := (hI'.bel.block (W.heap.size + 1) (by omega)).trans val; obtain ⟨x0, x1, x2, x3⟩ := cells4w kk; obtain ⟨y0, y1, y2, y3⟩ := cells4w vv; clear kk vv hI'; go_simp; (try go_bits); exact rfl)); go_simp; (try go_bits); refine hK _ ?_; clear hK K)
          first | (refine flowU_skip rfl (fun K hK => ?_); go_simp; (try go_bits); refine hK _ ?_; clear hK K) | (refine flowU_readE rfl rfl (fun K hK => ?_); apply Exists.intro; apply And.intro; (focus (intro w' hR; obtain ⟨F', hI'⟩ := hR; have kk := (hI'.bel.block W.heap.size (by omega)).trans key; have vv := (hI'.bel.block (W.heap.size + 1) (by omega)).trans val; obtain ⟨x0, x1, x2, x3⟩ := cells4w kk; obtain ⟨y0, y1, y2, y3⟩ := cells4w vv; clear kk vv hI'; go_simp; (try go_bits); exact rfl)); go_simp; (try go_bits); refine hK _ ?_; clear hK K)
          refine flowU_step (fun u s => u = .bool false ∧ s = 1) (by decide) rfl ⟨_, 1, rfl, rfl⟩ (fun w' hR => ?_) (fun _ _ _ _ _ => trivial) (fun K hK v s2 hs2 => ?_)
          focus
            obtain ⟨F', hI'⟩ := hR
            have cM := (Warm_new hI'.rep ha hwm2 (by have := lqS_len R2 a (a, k) 0; omega) (by omega))
            unfold ptr at cM
            go_simp
            refine cM.mono ?_
            intro e w3 hm
            obtain ⟨rfl, sz', F2, hI2, hkeep⟩ := hI'.step hm
            exact ⟨_, rfl, 1, ⟨rfl, rfl⟩, F2, hI2⟩
          obtain ⟨rfl, rfl⟩ := hs2
          (go_simp; refine hK _ _ ?_; clear hK K)
          first | (refine flowU_skip rfl (fun K hK => ?_); go_simp; (try go_bits); refine hK _ ?_; clear hK K) | (refine flowU_readE rfl rfl (fun K hK => ?_); apply Exists.intro; apply And.intro; (focus (intro w' hR; obtain ⟨F', hI'⟩ := hR; have kk := (hI'.bel.block W.heap.size (by omega)).trans key; have vv := (hI'.bel.block (W.heap.size + 1) (by omega)).trans val; obtain ⟨x0, x1, x2, x3⟩ := cells4w kk; obtain ⟨y0, y1, y2, y3⟩ := cells4w vv; clear kk vv hI'; go_simp; (try go_bits); exact rfl)); go_simp; (try go_bits); refine hK _ ?_; clear hK K)
          (refine flowU_readE rfl rfl (fun K hK => ?_); apply Exists.intro; apply And.intro; (focus (intro w' hR; obtain ⟨F', hI'⟩ := hR; have kk := (hI'.bel.block W.heap.size (by omega)).trans key; have vv := (hI'.bel.block (W.heap.size + 1) (by omega)).trans val; obtain ⟨x0, x1, x2, x3⟩ := cells4w kk; obtain ⟨y0, y1, y2, y3⟩ := cells4w vv; clear kk vv hI'; go_simp; (try go_bits); exact rfl)); go_simp; (try go_bits); refine hK _ ?_; clear hK K)
          (refine flowU_readE rfl rfl (fun K hK => ?_); apply Exists.intro; apply And.intro; (focus (intro w' hR; obtain ⟨F', hI'⟩ := hR; have kk := (hI'.bel.block W.heap.size (by omega)).trans key; have vv := (hI'.bel.block (W.heap.size + 1) (by omega)).trans val; obtain ⟨x0, x1, x2, x3⟩ := cells4w kk; obtain ⟨y0, y1, y2, y3⟩ := cells4w vv; clear kk vv hI'; go_simp; (try go_bits); exact rfl)); go_simp; (try go_bits); refine hK _ ?_; clear hK K)
          first | (refine flowU_skip rfl (fun K hK => ?_); go_simp; (try go_bits); refine hK _ ?_; clear hK K) | (refine flowU_readE rfl rfl (fun K hK => ?_); apply Exists.intro; apply And.intro; (focus (intro w' hR; obtain ⟨F', hI'⟩ := hR; have kk := (hI'.bel.block W.heap.size (by omega)).trans key; have vv := (hI'.bel.block (W.heap.size + 1) (by omega)).trans val; obtain ⟨x0, x1, x2, x3⟩ := cells4w kk; obtain ⟨y0, y1, y2, y3⟩ := cells4w vv; clear kk vv hI'; go_simp; (try go_bits); exact rfl)); go_simp; (try go_bits); refine hK _ ?_; clear hK K)
          first | (refine flowU_skip rfl (fun K hK => ?_); go_simp; (try go_bits); refine hK _ ?_; clear hK K) | (refine flowU_readE rfl rfl (fun K hK => ?_); apply Exists.intro; apply And.intro; (focus (intro w' hR; obtain ⟨F', hI'⟩ := hR; have kk := (hI'.bel.block W.heap.size (by omega)).trans key; have vv := (hI'.bel.block (W.heap.size + 1) (by omega)).trans val; obtain ⟨x0, x1, x2, x3⟩ := cells4w kk; obtain ⟨y0, y1, y2, y3⟩ := cells4w vv; clear kk vv hI'; go_simp; (try go_bits); exact rfl)); go_simp; (try go_bits); refine hK _ ?_; clear hK K)
          refine flowU_step (fun u s => u = .bool true ∧ s = 2) (by decide) rfl ⟨_, 2, rfl, rfl⟩ (fun w' hR => ?_) (fun _ _ _ _ _ => trivial) (fun K hK v s2 hs2 => ?_)
          focus
            obtain ⟨F', hI'⟩ := hR
            have cM := (Warm_old hI'.rep ha (lqS_wm _ _ _))
            unfold ptr at cM
            go_simp
            refine cM.mono ?_
            intro e w3 hm
            obtain ⟨rfl, sz', F2, hI2, hkeep⟩ := hI'.step hm
            exact ⟨_, rfl, 2, ⟨rfl, rfl⟩, F2, hI2⟩
          obtain ⟨rfl, rfl⟩ := hs2
          (go_simp; refine hK _ _ ?_; clear hK K)
          (refine flowU_readE rfl rfl (fun K hK => ?_); apply Exists.intro; apply And.intro; (focus (intro w' hR; obtain ⟨F', hI'⟩ := hR; have kk := (hI'.bel.block W.heap.size (by omega)).trans key; have vv := (hI'.bel.block (W.heap.size + 1) (by omega)).trans val; obtain ⟨x0, x1, x2, x3⟩ := cells4w kk; obtain ⟨y0, y1, y2, y3⟩ := cells4w vv; clear kk vv hI'; go_simp; (try go_bits); exact rfl)); go_simp; (try go_bits); refine hK _ ?_; clear hK K)
          (refine flowU_readE rfl rfl (fun K hK => ?_); apply Exists.intro; apply And.intro; (focus (intro w' hR; obtain ⟨F', hI'⟩ := hR; have kk := (hI'.bel.block W.heap.size (by omega)).trans key; have vv := (hI'.bel.block (W.heap.size + 1) (by omega)).trans val; obtain ⟨x0, x1, x2, x3⟩ := cells4w kk; obtain ⟨y0, y1, y2, y3⟩ := cells4w vv; clear kk vv hI'; go_simp; (try go_bits); exact rfl)); go_simp; (try go_bits); refine hK _ ?_; clear hK K)
          first | (refine flowU_skip rfl (fun K hK => ?_); go_simp; (try go_bits); refine hK _ ?_; clear hK K) | (refine flowU_readE rfl rfl (fun K hK => ?_); apply Exists.intro; apply And.intro; (focus (intro w' hR; obtain ⟨F', hI'⟩ := hR; have kk := (hI'.bel.block W.heap.size (by omega)).trans key; have vv := (hI'.bel.block (W.heap.size + 1) (by omega)).trans val; obtain ⟨x0, x1, x2, x3⟩ := cells4w kk; obtain ⟨y0, y1, y2, y3⟩ := cells4w vv; clear kk vv hI'; go_simp; (try go_bits); exact rfl)); go_simp; (try go_bits); refine hK _ ?_; clear hK K)
          first | (refine flowU_skip rfl (fun K hK => ?_); go_simp; (try go_bits); refine hK _ ?_; clear hK K) | (refine flowU_readE rfl rfl (fun K hK => ?_); apply Exists.intro; apply And.intro; (focus (intro w' hR; obtain ⟨F', hI'⟩ := hR; have kk := (hI'.bel.block W.heap.size (by omega)).trans key; have vv := (hI'.bel.block (W.heap.size + 1) (by omega)).trans val; obtain ⟨x0, x1, x2, x3⟩ := cells4w kk; obtain ⟨y0, y1, y2, y3⟩ := cells4w vv; clear kk vv hI'; go_simp; (try go_bits); exact rfl)); go_simp; (try go_bits); refine hK _ ?_; clear hK K)
          first | (refine flowU_skip rfl (fun K hK => ?_); go_simp; (try go_bits); refine hK _ ?_; clear hK K) | (refine flowU_readE rfl rfl (fun K hK => ?_); apply Exists.intro; apply And.intro; (focus (intro w' hR; obtain ⟨F', hI'⟩ := hR; have kk := (hI'.bel.block W.heap.size (by omega)).trans key; have vv := (hI'.bel.block (W.heap.size + 1) (by omega)).trans val; obtain ⟨x0, x1, x2, x3⟩ := cells4w kk; obtain ⟨y0, y1, y2, y3⟩ := cells4w vv; clear kk vv hI'; go_simp; (try go_bits); exact rfl)); go_simp; (try go_bits); refine hK _ ?_; clear hK K)
          refine flowU_step (fun u s => u = .bool false ∧ s = 3) (by decide) rfl ⟨_, 3, rfl, rfl⟩ (fun w' hR => ?_) (fun _ _ _ _ _ => trivial) (fun K hK v s2 hs2 => ?_)
          focus
            obtain ⟨F', hI'⟩ := hR
            have cM := (WarmCell_new hI'.rep ⟨ha, hk⟩ hce2 (by have := lqS_len R2 a (a, k) 2; omega) (by omega))
            unfold ptr at cM
            go_simp
            refine cM.mono ?_
            intro e w3 hm
            obtain ⟨rfl, sz', F2, hI2, hkeep⟩ := hI'.step hm
            exact ⟨_, rfl, 3, ⟨rfl, rfl⟩, F2, hI2⟩
          obtain ⟨rfl, rfl⟩ := hs2
          (go_simp; refine hK _ _ ?_; clear hK K)
          first | (refine flowU_skip rfl (fun K hK => ?_); go_simp; (try go_bits); refine hK _ ?_; clear hK K) | (refine flowU_readE rfl rfl (fun K hK => ?_); apply Exists.intro; apply And.intro; (focus (intro w' hR; obtain ⟨F', hI'⟩ := hR; have kk := (hI'.bel.block W.heap.size (by omega)).trans key; have vv := (hI'.bel.block (W.heap.size + 1) (by omega)).trans val; obtain ⟨x0, x1, x2, x3⟩ := cells4w kk; obtain ⟨y0, y1, y2, y3⟩ := cells4w vv; clear kk vv hI'; go_simp; (try go_bits); exact rfl)); go_simp; (try go_bits); refine hK _ ?_; clear hK K)
          (refine flowU_readE rfl rfl (fun K hK => ?_); apply Exists.intro; apply And.intro; (focus (intro w' hR; obtain ⟨F', hI'⟩ := hR; have kk := (hI'.bel.block W.heap.size (by omega)).trans key; have vv := (hI'.bel.block (W.heap.size + 1) (by omega)).trans val; obtain ⟨x0, x1, x2, x3⟩ := cells4w kk; obtain ⟨y0, y1, y2, y3⟩ := cells4w vv; clear kk vv hI'; go_simp; (try go_bits); exact rfl)); go_simp; (try go_bits); refine hK _ ?_; clear hK K)
          (refine flowU_readE rfl rfl (fun K hK => ?_); apply Exists.intro; apply And.intro; (focus (intro w' hR; obtain ⟨F', hI'⟩ := hR; have kk := (hI'.bel.block W.heap.size (by omega)).trans key; have vv := (hI'.bel.block (W.heap.size + 1) (by omega)).trans val; obtain ⟨x0, x1, x2, x3⟩ := cells4w kk; obtain ⟨y0, y1, y2, y3⟩ := cells4w vv; clear kk vv hI'; go_simp; (try go_bits); exact rfl)); go_simp; (try go_bits); refine hK _ ?_; clear hK K)
          first | (refine flowU_skip rfl (fun K hK => ?_); go_simp; (try go_bits); refine hK _ ?_; clear hK K) | (refine flowU_readE rfl rfl (fun K hK => ?_); apply Exists.intro; apply And.intro; (focus (intro w' hR; obtain ⟨F', hI'⟩ := hR; have kk := (hI'.bel.block W.heap.size (by omega)).trans key; have vv := (hI'.bel.block (W.heap.size + 1) (by omega)).trans val; obtain ⟨x0, x1, x2, x3⟩ := cells4w kk; obtain ⟨y0, y1, y2, y3⟩ := cells4w vv; clear kk vv hI'; go_simp; (try go_bits); exact rfl)); go_simp; (try go_bits); refine hK _ ?_; clear hK K)
          first | (refine flowU_skip rfl (fun K hK => ?_); go_simp; (try go_bits); refine hK _ ?_; clear hK K) | (refine flowU_readE rfl rfl (fun K hK => ?_); apply Exists.intro; apply And.intro; (focus (intro w' hR; obtain ⟨F', hI'⟩ := hR; have kk := (hI'.bel.block W.heap.size (by omega)).trans key; have vv := (hI'.bel.block (W.heap.size + 1) (by omega)).trans val; obtain ⟨x0, x1, x2, x3⟩ := cells4w kk; obtain ⟨y0, y1, y2, y3⟩ := cells4w vv; clear kk vv hI'; go_simp; (try go_bits); exact rfl)); go_simp; (try go_bits); refine hK _ ?_; clear hK K)
          first | (refine flowU_skip rfl (fun K hK => ?_); go_simp; (try go_bits); refine hK _ ?_; clear hK K) | (refine flowU_readE rfl rfl (fun K hK => ?_); apply Exists.intro; apply And.intro; (focus (intro w' hR; obtain ⟨F', hI'⟩ := hR; have kk := (hI'.bel.block W.heap.size (by omega)).trans key; have vv := (hI'.bel.block (W.heap.size + 1) (by omega)).trans val; obtain ⟨x0, x1, x2, x3⟩ := cells4w kk; obtain ⟨y0, y1, y2, y3⟩ := cells4w vv; clear kk vv hI'; go_simp; (try go_bits); exact rfl)); go_simp; (try go_bits); refine hK _ ?_; clear hK K)
          refine flowU_step (fun u s => u = .bool true ∧ s = 4) (by decide) rfl ⟨_, 4, rfl, rfl⟩ (fun w' hR => ?_) (fun _ _ _ _ _ => trivial) (fun K hK v s2 hs2 => ?_)
          focus
            obtain ⟨F', hI'⟩ := hR
            have cM := (WarmCell_old hI'.rep ⟨ha, hk⟩ (lqS_ce _ _ _))
            unfold ptr at cM
            go_simp
            refine cM.mono ?_
            intro e w3 hm
            obtain ⟨rfl, sz', F2, hI2, hkeep⟩ := hI'.step hm
            exact ⟨_, rfl, 4, ⟨rfl, rfl⟩, F2, hI2⟩
          obtain ⟨rfl, rfl⟩ := hs2
          (go_simp; refine hK _ _ ?_; clear hK K)
          (refine flowU_readE rfl rfl (fun K hK => ?_); apply Exists.intro; apply And.intro; (focus (intro w' hR; obtain ⟨F', hI'⟩ := hR; have kk := (hI'.bel.block W.heap.size (by omega)).trans key; have vv := (hI'.bel.block (W.heap.size + 1) (by omega)).trans val; obtain ⟨x0, x1, x2, x3⟩ := cells4w kk; obtain ⟨y0, y1, y2, y3⟩ := cells4w vv; clear kk vv hI'; go_simp; (try go_bits); exact rfl)); go_simp; (try go_bits); refine hK _ ?_; clear hK K)
          (refine flowU_readE rfl rfl (fun K hK => ?_); apply Exists.intro; apply And.intro; (focus (intro w' hR; obtain ⟨F', hI'⟩ := hR; have kk := (hI'.bel.block W.heap.size (by omega)).trans key; have vv := (hI'.bel.block (W.heap.size + 1) (by omega)).trans val; obtain ⟨x0, x1, x2, x3⟩ := cells4w kk; obtain ⟨y0, y1, y2, y3⟩ := cells4w vv; clear kk vv hI'; go_simp; (try go_bits); exact rfl)); go_simp; (try go_bits); refine hK _ ?_; clear hK K)
          refine flowU_nil ?_
          intro w8 hR8
          obtain ⟨F8, hI8⟩ := hR8
          go_wp2
          go_ret
          exact ⟨rfl, b0.trans (hI8.bel.mono (by omega))⟩
end Go.Proofs.YtcdjdnbdblpofaaDoor
