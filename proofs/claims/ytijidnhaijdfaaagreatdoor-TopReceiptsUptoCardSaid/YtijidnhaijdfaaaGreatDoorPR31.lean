/-
  Texts of one proof, one behind the other. Conditions: each text's own line says them.
-/
import Derived.Test.YtijidnhaijdfaaaGreatDoorPR29
import Derived.Test.YtijidnhaijdfaaaGreatDoorPR30
import Derived.Test.YtijidnhaijdfaaaGreatDoorKShelf

/- The node of a reference: (*walk).node. Conditions: the text ahead is the node's. -/
namespace Go.Proofs.YtijidnhaijdfaaaGreatDoor
open Go.RowKit
attribute [local go_sem] leftBy leaves Oper.semAt_some
set_option linter.unusedSimpArgs false
set_option linter.unusedVariables false

/-- The walk's block. -/
def wkO (path : Bs) (pr : Value) (val : Bs) : Obj := .cells #[.string (bsS path), pr, .string (bsS val)] 117 (0, 0)
/-- Where the region stands that takes a digest: the text's block is laid. -/
structure bxR (W1 : World) (s : Value) (g : Option Nat) (w' : World) : Prop where
  bel : Below W1.heap.size W1 w'
  one : ∀ q, g = some q → w'.heap[q]? = some (.cells #[s] 9 (0, 0))
theorem bxR.below {W1 w' w2 : World} {s : Value} {g : Option Nat} (h : bxR W1 s g w') (hb : Below w'.heap.size w' w2) : bxR W1 s g w2 :=
  ⟨h.bel.trans (hb.mono h.bel.size), fun q hq => (hb.block q (Array.getElem?_eq_some_iff.1 (h.one q hq)).1).trans (h.one q hq)⟩
structure n7R (W1 : World) (q wb : Nat) (a0 a1 b0 b1 : Obj) (s : Nat) (w' : World) : Prop where
  fr : Fr (fun k => k = q ∨ k = wb) W1 w'
  hq : w'.heap[q]? = some (if 1 ≤ s then a1 else a0)
  hw : w'.heap[wb]? = some (if 2 ≤ s then b1 else b0)
theorem n7R.c1 {W1 w' : World} {q wb s : Nat} {a0 a1 b1 : Obj} {path val : Bs} {pr : Value} (h : n7R W1 q wb a0 a1 (wkO path pr val) b1 s w') (hs : ¬ 2 ≤ s) : w'.cell? ⟨wb, 1, none⟩ = some pr := by
  have h1 := h.hw
  rw [if_neg hs] at h1
  rw [Lib.cell_of_heap h1]
  rfl
theorem boxes (W : World) (a b c : Value) : Below W.heap.size W ((W.alloc (.cells #[a, b, c] 51)).alloc (.cells #[.bool false, .string ⟨#[]⟩, .slice none 0 0] 51)) ∧ ((W.alloc (.cells #[a, b, c] 51)).alloc (.cells #[.bool false, .string ⟨#[]⟩, .slice none 0 0] 51)).heap.size = W.heap.size + 2 ∧
    ((W.alloc (.cells #[a, b, c] 51)).alloc (.cells #[.bool false, .string ⟨#[]⟩, .slice none 0 0] 51)).heap[W.heap.size]? = some (.cells #[a, b, c] 51 (0, 0)) ∧ ((W.alloc (.cells #[a, b, c] 51)).alloc (.cells #[.bool false, .string ⟨#[]⟩, .slice none 0 0] 51)).heap[W.heap.size + 1]? = some (.cells #[.bool false, .string ⟨#[]⟩, .slice none 0 0] 51 (0, 0)) :=
  ⟨((Below.refl _ W).alloc (Nat.le_refl _) _).alloc (by simp) _, by simp, (Below.heap_alloc _ _ _ (by simp)).trans (heap_new rfl), heap_new (by simp)⟩
set_option maxRecDepth 100000 in
set_option maxHeartbeats 8000000 in
theorem node_text (x : It) (hx : isL x = true) (hN : isT 67 x) (hdep : dep x < 12) (hlen : (enc x).length ≤ 65536) (W : World) (wb pb po m pc : Nat) (path val : Bs)
    (hwb : W.heap[wb]? = some (wkO path (.slice (some ⟨pb, po, none⟩) (m + 1) pc) val)) (hp : W.cell? ⟨pb, po, none⟩ = some (.string (bsS (enc x)))) (hpb : pb ≠ wb) (hpc : m + 1 ≤ pc) (hpm : pc ≤ maxLen) (hm : m ≤ 1000) (hT : KT W) (h3 : 3 ≤ W.heap.size) :
    Calls Tryz.prog 46 #[.pointer (some ⟨wb, 0, none⟩), .agg #[.bool false, .string (bsS (dg (enc x))), .slice none 0 0]] W fun e w' => ∃ v pa, e = .returned (.tuple #[v, .bool true]) ∧ itF (fun q => W.heap.size ≤ q) w' x v ∧ w'.heap[wb]? = some (wkO path (.slice pa m (pc - 1)) val) ∧ (0 < m → pa = some ⟨pb, po + 1, none⟩) ∧ Fr (fun q => q = wb) W w' := by
  have hlt := (Array.getElem?_eq_some_iff.1 hwb).1
  have hltp := lt_of_cell hp
  obtain ⟨bB, z0, h0, h1⟩ := boxes W (.bool false) (.string (bsS (dg (enc x)))) (.slice none 0 0)
  have hw2 := (bB.block wb hlt).trans hwb
  have hp2 := (bB.cell (p := ⟨pb, po, none⟩) hltp).trans hp
  have hne0 : ((m : Int) + 1 == 0) = false := by
    rw [beq_eq_false_iff_ne]
    omega
  have hT2 := Lib.hid (hT.below bB h3)
  clear hpm hT
  go_enter Tryz.func46, Tryz.ntmps46
  go_wp2
  generalize ((W.alloc (.cells #[.bool false, .string (bsS (dg (enc x))), .slice none 0 0] 51)).alloc (.cells #[.bool false, .string ⟨#[]⟩, .slice none 0 0] 51)) = W2 at *
  obtain ⟨x0, x1, x2⟩ := cell3 h0
  obtain ⟨w0, w1, w2⟩ := cell3 hw2
  have hlt2 : wb < W2.heap.size := by omega
  have hltp2 : pb < W2.heap.size := by omega
  have hlq2 : W.heap.size < W2.heap.size := by omega
  refine wp_flowU (fun k => ([1, 1, 1, 1, 1, 1, 1, 1, 1, 1, 1, 1, 1, 2, 2, 0, 0, 1, 1] : List Nat).getD k 1) (bxR W2 (.string (bsS (enc x)))) (fun _ => True) (none) (⟨below_drewN (Below.refl _ _) _, fun q h => (by cases h)⟩) trivial (by kernel_rfl) (by kernel_rfl) ?_
  iterate 7 ((refine flowU_readE rfl rfl (fun K hK => ?_); apply Exists.intro; apply And.intro; (focus (intro w' hR; have p0 := (hR.bel.cell (p := ⟨wb, 1, none⟩) hlt2).trans w1; have p1 := (hR.bel.cell (p := ⟨pb, po, none⟩) hltp2).trans hp2; have p2 := (hR.bel.cell (p := ⟨W.heap.size, 1, none⟩) hlq2).trans x1; clear hR; go_simp; (try go_bits); exact rfl)); go_simp; (try go_bits); refine hK _ ?_; clear hK K))
  iterate 6 (first | (refine flowU_skip rfl (fun K hK => ?_); go_simp; (try go_bits); refine hK _ ?_; clear hK K) | (refine flowU_readE rfl rfl (fun K hK => ?_); apply Exists.intro; apply And.intro; (focus (intro w' hR; have p0 := (hR.bel.cell (p := ⟨wb, 1, none⟩) hlt2).trans w1; have p1 := (hR.bel.cell (p := ⟨pb, po, none⟩) hltp2).trans hp2; have p2 := (hR.bel.cell (p := ⟨W.heap.size, 1, none⟩) hlq2).trans x1; clear hR; go_simp; (try go_bits); exact rfl)); go_simp; (try go_bits); refine hK _ ?_; clear hK K))
  refine flowU_step (fun v s => ∃ g, v = .slice (some ⟨g, 0, none⟩) 1 1 ∧ s = some g) (by decide) rfl ⟨_, _, 0, rfl, rfl⟩ (fun w' hR => ?_) (fun _ _ _ _ _ => trivial) (fun K hK v s2 hs2 => ?_)
  focus
    have hb := hR.bel
    clear hR
    go_simp
    exact ⟨hb.alloc hb.size _, fun q hq => by obtain rfl := Option.some.inj hq; exact heap_new rfl⟩
  obtain ⟨gz, rfl, rfl⟩ := hs2
  (go_simp; refine hK _ _ ?_; clear hK K)
  refine flowU_step (fun v s => v = .string (bsS (dg (enc x))) ∧ s = some gz) (by decide) rfl ⟨_, _, rfl, rfl⟩ (fun w' hR => ?_) (fun _ _ _ _ _ => trivial) (fun K hK v s2 hs2 => ?_)
  focus
    have cS := Sum_one (enc x) gz w' (by rw [Lib.cell_of_heap (hR.one gz rfl)]; rfl) (by omega) (by have := hR.bel.size; omega) (hT2.out.below hR.bel (by omega))
    go_simp
    exact cS.mono (by rintro e w4 ⟨rfl, hb⟩; exact ⟨_, rfl, _, ⟨rfl, rfl⟩, hR.below hb⟩)
  obtain ⟨rfl, rfl⟩ := hs2
  (go_simp; refine hK _ _ ?_; clear hK K)
  iterate 2 (first | (refine flowU_skip rfl (fun K hK => ?_); go_simp; (try go_bits); refine hK _ ?_; clear hK K) | (refine flowU_lateE rfl rfl (fun K hK => ?_); apply Exists.intro; apply And.intro; (focus (intro s0 w' hC hR; have p0 := (hR.bel.cell (p := ⟨wb, 1, none⟩) hlt2).trans w1; have p1 := (hR.bel.cell (p := ⟨pb, po, none⟩) hltp2).trans hp2; have p2 := (hR.bel.cell (p := ⟨W.heap.size, 1, none⟩) hlq2).trans x1; clear hR; go_simp; (try go_bits); exact rfl)); go_simp; (try go_bits); refine hK _ ?_; clear hK K))
  first | (refine flowU_skip rfl (fun K hK => ?_); go_simp; (try go_bits); refine hK _ ?_; clear hK K) | (refine flowU_readE rfl rfl (fun K hK => ?_); apply Exists.intro; apply And.intro; (focus (intro w' hR; have p0 := (hR.bel.cell (p := ⟨wb, 1, none⟩) hlt2).trans w1; have p1 := (hR.bel.cell (p := ⟨pb, po, none⟩) hltp2).trans hp2; have p2 := (hR.bel.cell (p := ⟨W.heap.size, 1, none⟩) hlq2).trans x1; clear hR; go_simp; (try go_bits); exact rfl)); go_simp; (try go_bits); refine hK _ ?_; clear hK K)
  (refine flowU_readE rfl rfl (fun K hK => ?_); apply Exists.intro; apply And.intro; (focus (intro w' hR; have p0 := (hR.bel.cell (p := ⟨wb, 1, none⟩) hlt2).trans w1; have p1 := (hR.bel.cell (p := ⟨pb, po, none⟩) hltp2).trans hp2; have p2 := (hR.bel.cell (p := ⟨W.heap.size, 1, none⟩) hlq2).trans x1; clear hR; go_simp; (try go_bits); exact rfl)); go_simp; (try go_bits); refine hK _ ?_; clear hK K)
  refine flowU_nil ?_
  intro W3 hR3
  have hb3 := hR3.bel
  have hs3 := hb3.size
  clear hR3
  have p0 := (hb3.cell (p := ⟨wb, 1, none⟩) hlt2).trans w1
  have p1 := (hb3.cell (p := ⟨pb, po, none⟩) hltp2).trans hp2
  have cD := fun w => Decode_any x hdep hlen w
  go_wp2_with (go_at_call 25; refine (cD _).mono ?_; rintro e w4 ⟨v, rfl, hit, hb4⟩; obtain ⟨xa, xc, rfl, _⟩ := hit.form; rw [hx] at hit)
  have hs4 := hb4.size
  have b5 : Below W2.heap.size W2 (w4.alloc (.cells #[.bool true, .string (bsS (txt x)), .slice xa (subs x).length xc] 51)) := (hb3.trans (hb4.mono hs3)).alloc (by omega) _
  have n6 := heap_new (w := w4) (o := .cells #[.bool true, .string (bsS (txt x)), .slice xa (subs x).length xc] 51) rfl
  have hit5 := hit.below ((Below.refl _ w4).alloc (Nat.le_refl _) (.cells #[.bool true, .string (bsS (txt x)), .slice xa (subs x).length xc] 51))
  have z5 : (w4.alloc (.cells #[.bool true, .string (bsS (txt x)), .slice xa (subs x).length xc] 51)).heap.size = w4.heap.size + 1 := World.size_alloc _ _
  generalize w4.alloc (.cells #[.bool true, .string (bsS (txt x)), .slice xa (subs x).length xc] 51) = W5 at *
  have h05 := (b5.block W.heap.size hlq2).trans h0
  have h15 := (b5.block (W.heap.size + 1) (by omega)).trans h1
  have hw5 := (b5.block wb hlt2).trans hw2
  obtain ⟨y0, y1, y2⟩ := cell3 n6
  have u1 := (b5.cell (p := ⟨wb, 1, none⟩) hlt2).trans w1
  have hpci : (1 : Int) ≤ (m : Int) + 1 := by omega
  have hpcj : (m : Int) + 1 ≤ (pc : Int) := by omega
  clear hp2 p0 p1 x0 x1 x2 w0 w1 w2 h0 h1 hw2 cD hp hit n6
  refine wp_flowU (fun k => ([0, 1, 0, 0, 0, 0, 0, 2, 1, 1, 4] : List Nat).getD k 1) (n7R W5 W.heap.size wb (.cells #[.bool false, .string (bsS (dg (enc x))), .slice none 0 0] 51 (0, 0)) (.cells #[.bool true, .string (bsS (txt x)), .slice xa (subs x).length xc] 51 (0, 0)) (wkO path (.slice (some ⟨pb, po, none⟩) (m + 1) pc) val) (wkO path (.slice (if pc = 1 then some ⟨pb, po, none⟩ else some ⟨pb, po + 1, none⟩) m (pc - 1)) val)) (fun s => s ≤ 1) (0) (⟨Fr.drew (Fr.refl _ _), h05, hw5⟩) (by decide) (by kernel_rfl) (by kernel_rfl) ?_
  (refine flowU_lateE rfl rfl (fun K hK => ?_); apply Exists.intro; apply And.intro; (focus (intro s0 w' hC hR; have e0 := hR.fr.cell y0 (by omega) (by omega); have e1 := hR.fr.cell y1 (by omega) (by omega); have e2 := hR.fr.cell y2 (by omega) (by omega); (try (have e3 := hR.c1 (by first | decide | exact Nat.not_le_of_lt (Nat.lt_succ_of_le hC)))); clear hR; go_simp; (try go_bits); exact rfl)); go_simp; (try go_bits); refine hK _ ?_; clear hK K)
  (refine flowU_readE rfl rfl (fun K hK => ?_); apply Exists.intro; apply And.intro; (focus (intro w' hR; have e0 := hR.fr.cell y0 (by omega) (by omega); have e1 := hR.fr.cell y1 (by omega) (by omega); have e2 := hR.fr.cell y2 (by omega) (by omega); (try (have e3 := hR.c1 (by first | decide | exact Nat.not_le_of_lt (Nat.lt_succ_of_le hC)))); clear hR; go_simp; (try go_bits); exact rfl)); go_simp; (try go_bits); refine hK _ ?_; clear hK K)
  iterate 5 ((refine flowU_lateE rfl rfl (fun K hK => ?_); apply Exists.intro; apply And.intro; (focus (intro s0 w' hC hR; have e0 := hR.fr.cell y0 (by omega) (by omega); have e1 := hR.fr.cell y1 (by omega) (by omega); have e2 := hR.fr.cell y2 (by omega) (by omega); (try (have e3 := hR.c1 (by first | decide | exact Nat.not_le_of_lt (Nat.lt_succ_of_le hC)))); clear hR; go_simp; (try go_bits); exact rfl)); go_simp; (try go_bits); refine hK _ ?_; clear hK K))
  refine flowU_step (fun v s => v = undef ∧ s = 1) (by decide) rfl ⟨_, _, rfl, rfl⟩ (fun w' hR => ?_) (fun _ _ v s2 h => by obtain ⟨_, rfl⟩ := h; exact Nat.le_refl 1) (fun K hK v s2 hs2 => ?_)
  focus
    have hfr := hR.fr
    have hq := hR.hq
    have hwq := hR.hw
    simp only [if_neg (by decide : ¬ 1 ≤ 0), if_neg (by decide : ¬ 2 ≤ 0)] at hq hwq
    have f0 := Lib.frozen_of_heap hq 0
    have f1 := Lib.frozen_of_heap hq 1
    have f2 := Lib.frozen_of_heap hq 2
    have hput : (((w'.setCell ⟨W.heap.size, 0, none⟩ (.bool true)).setCell ⟨W.heap.size, 1, none⟩ (.string (bsS (txt x)))).setCell ⟨W.heap.size, 2, none⟩ (.slice xa (subs x).length xc)).heap[W.heap.size]? = some (.cells #[.bool true, .string (bsS (txt x)), .slice xa (subs x).length xc] 51 (0, 0)) := by
      rw [setCell_at (setCell_at (setCell_at hq 0 _) 1 _) 2]
      rfl
    obtain ⟨i0, i1, i2⟩ := cell3 hq
    clear hR hq
    go_simp
    exact ⟨Fr.setCell (T := fun k => k = W.heap.size ∨ k = wb) (Fr.setCell (T := fun k => k = W.heap.size ∨ k = wb) (Fr.setCell (T := fun k => k = W.heap.size ∨ k = wb) hfr (.inl (.inl rfl)) _) (.inl (.inl rfl)) _) (.inl (.inl rfl)) _, hput, by rw [heap_set_ne (by omega), heap_set_ne (by omega), heap_set_ne (by omega)]; exact hwq⟩
  obtain ⟨rfl, rfl⟩ := hs2
  (go_simp; refine hK _ _ ?_; clear hK K)
  iterate 2 ((refine flowU_readE rfl rfl (fun K hK => ?_); apply Exists.intro; apply And.intro; (focus (intro w' hR; have e0 := hR.fr.cell y0 (by omega) (by omega); have e1 := hR.fr.cell y1 (by omega) (by omega); have e2 := hR.fr.cell y2 (by omega) (by omega); (try (have e3 := hR.c1 (by first | decide | exact Nat.not_le_of_lt (Nat.lt_succ_of_le hC)))); clear hR; go_simp; (try go_bits); exact rfl)); go_simp; (try go_bits); refine hK _ ?_; clear hK K))
  refine flowU_step (fun v s => v = undef ∧ s = 2) (by decide) rfl ⟨_, _, rfl, rfl⟩ (fun w' hR => ?_) (fun h _ _ _ _ => absurd rfl h) (fun K hK v s2 hs2 => ?_)
  focus
    have hfr := hR.fr
    have hq := hR.hq
    have hwq := hR.hw
    simp only [if_pos (by decide : 1 ≤ 1), if_neg (by decide : ¬ 2 ≤ 1)] at hq hwq
    have f1 := Lib.frozen_of_heap hwq 1
    obtain ⟨i0, i1, i2⟩ := cell3 hwq
    have hput : (w'.setCell ⟨wb, 1, none⟩ (.slice (if pc = 1 then some ⟨pb, po, none⟩ else some ⟨pb, po + 1, none⟩) m (pc - 1))).heap[wb]? = some (wkO path (.slice (if pc = 1 then some ⟨pb, po, none⟩ else some ⟨pb, po + 1, none⟩) m (pc - 1)) val) := by
      rw [setCell_at hwq 1]
      rfl
    clear hR hwq
    go_simp
    exact ⟨Fr.setCell (T := fun k => k = W.heap.size ∨ k = wb) hfr (.inl (.inr rfl)) _, by rw [heap_set_ne (by omega)]; exact hq, hput⟩
  obtain ⟨rfl, rfl⟩ := hs2
  (go_simp; refine hK _ _ ?_; clear hK K)
  refine flowU_nil ?_
  intro W6 hR6
  have f6 := hR6.fr
  have q6 := hR6.hq
  have r6 := hR6.hw
  rw [if_pos (by decide)] at q6 r6
  clear hR6
  have hs6 := f6.size
  have h16 := (f6.block (W.heap.size + 1) (by omega) (by omega)).trans h15
  have hit6 := hit5.to (F' := fun q => W.heap.size + 2 ≤ q) (W' := W6) fun q hq hc => ⟨by omega, f6.block q hc.lt (by omega)⟩
  have cNh := Lib.hid fun w (hf : Fr (fun k => k = W.heap.size + 1) W6 w) => hN w _ (hit6.to (F' := fun _ => True) (W' := w) fun q hq hc => ⟨trivial, hf.block q hc.lt (by omega)⟩)
  obtain ⟨y0, y1, y2⟩ := cell3 q6
  clear hN
  have hpa : 0 < m → (if pc = 1 then some (⟨pb, po, none⟩ : Addr) else some ⟨pb, po + 1, none⟩) = some ⟨pb, po + 1, none⟩ := fun hm0 => if_neg (by omega)
  generalize (if pc = 1 then some (⟨pb, po, none⟩ : Addr) else some ⟨pb, po + 1, none⟩) = pa at *
  go_wp2
  refine wp_flowU (fun k => ([0, 1, 2, 2, 1] : List Nat).getD k 1) (stR W6 (W.heap.size + 1) (.cells #[.bool false, .string ⟨#[]⟩, .slice none 0 0] 51 (0, 0)) (.cells #[.bool true, .string (bsS (txt x)), .slice xa (subs x).length xc] 51 (0, 0))) (fun _ => True) (false) (⟨Fr.drew (Fr.refl _ _), h16⟩) trivial (by kernel_rfl) (by kernel_rfl) ?_
  (refine flowU_lateE rfl rfl (fun K hK => ?_); apply Exists.intro; apply And.intro; (focus (intro s0 w' hC hR; have e0 := hR.fr.cell y0 (by omega) (by omega); have e1 := hR.fr.cell y1 (by omega) (by omega); have e2 := hR.fr.cell y2 (by omega) (by omega); clear hR; go_simp; (try go_bits); exact rfl)); go_simp; (try go_bits); refine hK _ ?_; clear hK K)
  (refine flowU_readE rfl rfl (fun K hK => ?_); apply Exists.intro; apply And.intro; (focus (intro w' hR; have e0 := hR.fr.cell y0 (by omega) (by omega); have e1 := hR.fr.cell y1 (by omega) (by omega); have e2 := hR.fr.cell y2 (by omega) (by omega); clear hR; go_simp; (try go_bits); exact rfl)); go_simp; (try go_bits); refine hK _ ?_; clear hK K)
  refine flowU_step (fun v s => v = .bool true ∧ s = false) (by decide) rfl ⟨_, _, rfl, rfl⟩ (fun w' hR => ?_) (fun _ _ _ _ _ => trivial) (fun K hK v s2 hs2 => ?_)
  focus
    have hfr := hR.fr
    have hnow := hR.now
    simp only [Bool.false_eq_true, if_false] at hnow
    have cN := cNh.out w' hfr
    clear hR
    go_simp
    exact cN.mono (by rintro e w4 ⟨rfl, hb⟩; exact ⟨_, rfl, rfl, ⟨hfr.below hb, (hb.block (W.heap.size + 1) (Array.getElem?_eq_some_iff.1 hnow).1).trans hnow⟩⟩)
  obtain ⟨rfl, rfl⟩ := hs2
  (go_simp; refine hK _ _ ?_; clear hK K)
  refine flowU_step (fun v s => v = undef ∧ s = true) (by decide) rfl ⟨_, _, rfl, rfl⟩ (fun w' hR => ?_) (fun _ _ _ _ _ => trivial) (fun K hK v s2 hs2 => ?_)
  focus
    have hnow := hR.now
    simp only [Bool.false_eq_true, if_false] at hnow
    have hfr := hR.fr
    have hput : (((w'.setCell ⟨W.heap.size + 1, 0, none⟩ (.bool true)).setCell ⟨W.heap.size + 1, 1, none⟩ (.string (bsS (txt x)))).setCell ⟨W.heap.size + 1, 2, none⟩ (.slice xa (subs x).length xc)).heap[W.heap.size + 1]? = some (.cells #[.bool true, .string (bsS (txt x)), .slice xa (subs x).length xc] 51 (0, 0)) := by
      rw [setCell_at (setCell_at (setCell_at hnow 0 _) 1 _) 2]
      rfl
    obtain ⟨i0, i1, i2⟩ := cell3 hnow
    have f0 := Lib.frozen_of_heap hnow 0
    have f1 := Lib.frozen_of_heap hnow 1
    have f2 := Lib.frozen_of_heap hnow 2
    clear hR hnow
    go_simp
    exact ⟨fr_set3 hfr _ _ _, hput⟩
  obtain ⟨rfl, rfl⟩ := hs2
  (go_simp; refine hK _ _ ?_; clear hK K)
  (refine flowU_readE rfl rfl (fun K hK => ?_); apply Exists.intro; apply And.intro; (focus (intro w' hR; have e0 := hR.fr.cell y0 (by omega) (by omega); have e1 := hR.fr.cell y1 (by omega) (by omega); have e2 := hR.fr.cell y2 (by omega) (by omega); clear hR; go_simp; (try go_bits); exact rfl)); go_simp; (try go_bits); refine hK _ ?_; clear hK K)
  refine flowU_nil ?_
  intro W7 hR7
  have f7 := hR7.fr
  have r7 := hR7.now
  rw [if_pos rfl] at r7
  obtain ⟨t0, t1, t2⟩ := cell3 r7
  have hs7 := f7.size
  have w7 := (f7.block wb (by omega) (by omega)).trans r6
  have hit7 := hit6.to (F' := fun q => W.heap.size ≤ q) (W' := W7) fun q hq hc => ⟨by omega, f7.block q hc.lt (by omega)⟩
  have hF : Fr (fun q => q = wb) W W7 := ⟨f7.os.trans (f6.os.trans (b5.os.trans bB.os)), f7.tape.trans (f6.tape.trans (b5.tape.trans bB.tape)), f7.output.trans (f6.output.trans (b5.output.trans bB.output)), by omega, fun q hq hT => (f7.block q (by omega) (by omega)).trans ((f6.block q (by omega) (by omega)).trans ((b5.block q (by omega)).trans (bB.block q hq)))⟩
  clear hR7 r6 cNh hit6 f7 f6
  go_wp2
  refine bodyPost_ret (by simp only [results, Tryz.results46]; go_simp; try rfl) rfl ⟨_, _, rfl, hit7, w7, hpa, hF⟩
set_option maxRecDepth 100000 in
set_option maxHeartbeats 8000000 in
theorem node_list (x : It) (hx : isL x = true) (hN : isT 67 x) (W : World) (wb : Nat) (v : Value) (hv : itF (fun _ => True) W x v) :
    Calls Tryz.prog 46 #[.pointer (some ⟨wb, 0, none⟩), v] W fun e w' => e = .returned (.tuple #[v, .bool true]) ∧ Below W.heap.size W w' := by
  obtain ⟨xa, xc, rfl, _⟩ := hv.form
  rw [hx] at hv ⊢
  obtain ⟨bB, z0, h0, h1⟩ := boxes W (.bool true) (.string (bsS (txt x))) (.slice xa (subs x).length xc)
  have cNh := Lib.hid fun w (hf : Fr (fun k => k = W.heap.size + 1) ((W.alloc (.cells #[.bool true, .string (bsS (txt x)), .slice xa (subs x).length xc] 51)).alloc (.cells #[.bool false, .string ⟨#[]⟩, .slice none 0 0] 51)) w) => hN w _ (hv.to (F' := fun _ => True) (W' := w) fun q _ hc => ⟨trivial, (hf.block q (by have := hc.lt; omega) (by have := hc.lt; omega)).trans (bB.block q hc.lt)⟩)
  clear hN hv
  go_enter Tryz.func46, Tryz.ntmps46
  go_wp2
  generalize ((W.alloc (.cells #[.bool true, .string (bsS (txt x)), .slice xa (subs x).length xc] 51)).alloc (.cells #[.bool false, .string ⟨#[]⟩, .slice none 0 0] 51)) = W2 at *
  obtain ⟨y0, y1, y2⟩ := cell3 h0
  refine wp_flowU (fun k => ([0, 1, 2, 2, 1] : List Nat).getD k 1) (stR W2 (W.heap.size + 1) (.cells #[.bool false, .string ⟨#[]⟩, .slice none 0 0] 51 (0, 0)) (.cells #[.bool true, .string (bsS (txt x)), .slice xa (subs x).length xc] 51 (0, 0))) (fun _ => True) (false) (⟨Fr.drew (Fr.refl _ _), h1⟩) trivial (by kernel_rfl) (by kernel_rfl) ?_
  (refine flowU_lateE rfl rfl (fun K hK => ?_); apply Exists.intro; apply And.intro; (focus (intro s0 w' hC hR; have e0 := hR.fr.cell y0 (by omega) (by omega); have e1 := hR.fr.cell y1 (by omega) (by omega); have e2 := hR.fr.cell y2 (by omega) (by omega); clear hR; go_simp; (try go_bits); exact rfl)); go_simp; (try go_bits); refine hK _ ?_; clear hK K)
  (refine flowU_readE rfl rfl (fun K hK => ?_); apply Exists.intro; apply And.intro; (focus (intro w' hR; have e0 := hR.fr.cell y0 (by omega) (by omega); have e1 := hR.fr.cell y1 (by omega) (by omega); have e2 := hR.fr.cell y2 (by omega) (by omega); clear hR; go_simp; (try go_bits); exact rfl)); go_simp; (try go_bits); refine hK _ ?_; clear hK K)
  refine flowU_step (fun v s => v = .bool true ∧ s = false) (by decide) rfl ⟨_, _, rfl, rfl⟩ (fun w' hR => ?_) (fun _ _ _ _ _ => trivial) (fun K hK v s2 hs2 => ?_)
  focus
    have hfr := hR.fr
    have hnow := hR.now
    simp only [Bool.false_eq_true, if_false] at hnow
    have cN := cNh.out w' hfr
    clear hR
    go_simp
    exact cN.mono (by rintro e w4 ⟨rfl, hb⟩; exact ⟨_, rfl, rfl, ⟨hfr.below hb, (hb.block (W.heap.size + 1) (Array.getElem?_eq_some_iff.1 hnow).1).trans hnow⟩⟩)
  obtain ⟨rfl, rfl⟩ := hs2
  (go_simp; refine hK _ _ ?_; clear hK K)
  refine flowU_step (fun v s => v = undef ∧ s = true) (by decide) rfl ⟨_, _, rfl, rfl⟩ (fun w' hR => ?_) (fun _ _ _ _ _ => trivial) (fun K hK v s2 hs2 => ?_)
  focus
    have hnow := hR.now
    simp only [Bool.false_eq_true, if_false] at hnow
    have hfr := hR.fr
    have hput : (((w'.setCell ⟨W.heap.size + 1, 0, none⟩ (.bool true)).setCell ⟨W.heap.size + 1, 1, none⟩ (.string (bsS (txt x)))).setCell ⟨W.heap.size + 1, 2, none⟩ (.slice xa (subs x).length xc)).heap[W.heap.size + 1]? = some (.cells #[.bool true, .string (bsS (txt x)), .slice xa (subs x).length xc] 51 (0, 0)) := by
      rw [setCell_at (setCell_at (setCell_at hnow 0 _) 1 _) 2]
      rfl
    obtain ⟨i0, i1, i2⟩ := cell3 hnow
    have f0 := Lib.frozen_of_heap hnow 0
    have f1 := Lib.frozen_of_heap hnow 1
    have f2 := Lib.frozen_of_heap hnow 2
    clear hR hnow
    go_simp
    exact ⟨fr_set3 hfr _ _ _, hput⟩
  obtain ⟨rfl, rfl⟩ := hs2
  (go_simp; refine hK _ _ ?_; clear hK K)
  (refine flowU_readE rfl rfl (fun K hK => ?_); apply Exists.intro; apply And.intro; (focus (intro w' hR; have e0 := hR.fr.cell y0 (by omega) (by omega); have e1 := hR.fr.cell y1 (by omega) (by omega); have e2 := hR.fr.cell y2 (by omega) (by omega); clear hR; go_simp; (try go_bits); exact rfl)); go_simp; (try go_bits); refine hK _ ?_; clear hK K)
  refine flowU_nil ?_
  intro W7 hR7
  have f7 := hR7.fr
  have r7 := hR7.now
  rw [if_pos rfl] at r7
  obtain ⟨t0, t1, t2⟩ := cell3 r7
  have hs7 := f7.size
  have hF : Below W.heap.size W W7 := ⟨f7.os.trans bB.os, f7.tape.trans bB.tape, f7.output.trans bB.output, by omega, fun q hq => (f7.block q (by omega) (by omega)).trans (bB.block q hq)⟩
  clear hR7 cNh f7
  go_wp2
  refine bodyPost_ret (by simp only [results, Tryz.results46]; go_simp; try rfl) rfl ⟨rfl, hF⟩
end Go.Proofs.YtijidnhaijdfaaaGreatDoor

/- A step of a walk: (*walk).step. Conditions: the thing is a node's. -/
namespace Go.Proofs.YtijidnhaijdfaaaGreatDoor
open Go.RowKit
attribute [local go_sem] leftBy leaves Oper.semAt_some
set_option linter.unusedSimpArgs false
set_option linter.unusedVariables false

theorem itsF_atF {F : Nat → Prop} {W : World} {a : Option Addr} : ∀ {l : List It} (j : Nat), itsF F W a j l → ∀ (i : Nat) (x : It), l[i]? = some x → ∃ bl o p n c, (a = some ⟨bl, o, none⟩ ∧ F bl) ∧ W.cell? ⟨bl, o + (j + i) * 3, none⟩ = some (.bool (isL x)) ∧ W.cell? ⟨bl, o + (j + i) * 3 + 1, none⟩ = some (.string (bsS (txt x))) ∧ W.cell? ⟨bl, o + (j + i) * 3 + 2, none⟩ = some (.slice p n c) ∧ itF F W x (.agg #[.bool (isL x), .string (bsS (txt x)), .slice p n c])
  | [], j, _, i, x, h => by cases h
  | y :: l, j, h, i, x, hx => by
    rw [itsF] at h
    obtain ⟨⟨bl, o, b, t, s, ⟨ha, hf⟩, ⟨c0, c1, c2⟩, hi⟩, hr⟩ := h
    cases i with
    | zero =>
      obtain rfl := Option.some.inj hx
      obtain ⟨p, c, he, _⟩ := hi.form
      simp only [Value.agg.injEq] at he
      have e := congrArg Array.toList he
      simp only [List.cons.injEq, and_true] at e
      obtain ⟨rfl, rfl, rfl⟩ := e
      exact ⟨bl, o, p, _, c, ⟨ha, hf⟩, c0, c1, c2, hi⟩
    | succ i =>
      have := itsF_atF (j + 1) hr i x hx
      rw [show j + 1 + i = j + (i + 1) by omega] at this
      exact this
theorem itF_list2 {F : Nat → Prop} {W : World} {l : List It} {v : Value} (h : itF F W (.list l) v) (hl : l ≠ []) : ∃ bl o c, v = .agg #[.bool true, .string ⟨#[]⟩, .slice (some ⟨bl, o, none⟩) l.length c] ∧ (F bl ∧ bl < W.heap.size) ∧ (l.length ≤ c ∧ c ≤ maxLen) ∧
    ∀ (i : Nat) (x : It), l[i]? = some x → ∃ p n c, W.cell? ⟨bl, o + i * 3, none⟩ = some (.bool (isL x)) ∧ W.cell? ⟨bl, o + i * 3 + 1, none⟩ = some (.string (bsS (txt x))) ∧ W.cell? ⟨bl, o + i * 3 + 2, none⟩ = some (.slice p n c) ∧ itF F W x (.agg #[.bool (isL x), .string (bsS (txt x)), .slice p n c]) := by
  rw [itF] at h
  obtain ⟨a, c, rfl, hc, hi⟩ := h
  obtain ⟨x, hx⟩ : ∃ x, l[0]? = some x := ⟨_, List.getElem?_eq_getElem (List.length_pos_iff.2 hl)⟩
  obtain ⟨bl, o, _, _, _, ⟨rfl, hf⟩, c0, _⟩ := itsF_atF 0 hi 0 x hx
  refine ⟨bl, o, c, rfl, ⟨hf, lt_of_cell c0⟩, hc, fun i y hy => ?_⟩
  obtain ⟨bl', o', p, n, c', ⟨e, _⟩, h0, h1, h2, h3⟩ := itsF_atF 0 hi i y hy
  simp only [Option.some.injEq, Addr.mk.injEq, and_true] at e
  obtain ⟨rfl, rfl⟩ := e
  rw [Nat.zero_add] at h0 h1 h2
  exact ⟨p, n, c', h0, h1, h2, h3⟩
/-- Where a region stands that lays a thing into a new block. -/
structure l5R (W1 : World) (cs : Array Value) (s : Nat × Nat) (w' : World) : Prop where
  bel : Below W1.heap.size W1 w'
  one : 1 ≤ s.1 → W1.heap.size ≤ s.2 ∧ w'.heap[s.2]? = some (.cells (if 2 ≤ s.1 then cs else #[.bool false, .string ⟨#[]⟩, .slice none 0 0]) 51 (0, 0))
set_option maxRecDepth 100000 in
set_option maxHeartbeats 8000000 in
theorem step_branch (F : Nat → Prop) (L : List It) (hL : L.length = 17) (y : It) (h : UInt8) (t : Bs) (hy : L[h.toNat]? = some y) (W : World) (wb : Nat) (pr : Value) (hpr : ∃ a n c, pr = .slice a n c) (val : Bs) (hF0 : ∀ q, F q → q ≠ wb) (hwb : W.heap[wb]? = some (wkO (h :: t) pr val)) (ht : t.length ≤ 1000) (v : Value)
    (hv : itF F W (.list L) v) :
    Calls Tryz.prog 47 #[.pointer (some ⟨wb, 0, none⟩), v] W fun e w' => ∃ u, e = .returned (.tuple #[u, .bool (neI y)]) ∧ itF F w' y u ∧ w'.heap[wb]? = some (wkO t pr val) ∧ Fr (fun q => q = wb) W w' := by
  have hlt := (Array.getElem?_eq_some_iff.1 hwb).1
  obtain ⟨pa, pn, pc, rfl⟩ := hpr
  obtain ⟨bl, o, c, rfl, ⟨hFb', hltb⟩, ⟨hc1, _⟩, hit⟩ := itF_list2 hv (fun e => by rw [e] at hL; cases hL)
  have hFb := hF0 bl hFb'
  obtain ⟨yp, yn, yc, a0, a1, a2, hyi⟩ := hit _ y hy
  rw [hL] at hc1 ⊢
  have hh17 : h.toNat < 17 := by
    have := (List.getElem?_eq_some_iff.1 hy).1
    omega
  have hh17i : (h.toNat : Int) < 17 := by omega
  have hh0 : (0 : Int) ≤ (h.toNat : Int) := by omega
  have hix : ∀ w : World, (Instr.index 9 (.string (bsS (h :: t))) (.int .i64 0)).run Tryz.prog w = .ok (.int .u8 (h.toNat : Nat)) w := fun w => index_bs (h :: t) 0 h rfl w
  have hem : (bsS (h :: t)).toList.isEmpty = false := by rw [bsS_list]; rfl
  obtain ⟨bB, z0, h0, h1⟩ := boxes W (.bool true) (.string ⟨#[]⟩) (.slice (some ⟨bl, o, none⟩) 17 c)
  have hw2 := (bB.block wb hlt).trans hwb
  have e0 := (bB.cell (p := ⟨bl, o + h.toNat * 3, none⟩) hltb).trans a0
  have e1 := (bB.cell (p := ⟨bl, o + h.toNat * 3 + 1, none⟩) hltb).trans a1
  have e2 := (bB.cell (p := ⟨bl, o + h.toNat * 3 + 2, none⟩) hltb).trans a2
  clear hit hv
  go_enter Tryz.func47, Tryz.ntmps47
  obtain ⟨x0, x1, x2⟩ := cell3 h0
  obtain ⟨w0, w1, w2⟩ := cell3 hw2
  go_wp2
  generalize ((W.alloc (.cells #[.bool true, .string ⟨#[]⟩, .slice (some ⟨bl, o, none⟩) 17 c] 51)).alloc (.cells #[.bool false, .string ⟨#[]⟩, .slice none 0 0] 51)) = W2 at *
  have hq2 : W.heap.size < W2.heap.size := by omega
  have hlt2 : wb < W2.heap.size := by omega
  have hltb2 : bl < W2.heap.size := by omega
  refine wp_flowU (fun k => ([0, 0, 0, 0, 0, 0, 0, 0, 0, 2, 2] : List Nat).getD k 1) (l5R W2 #[.bool (isL y), .string (bsS (txt y)), .slice yp yn yc]) (fun _ => True) ((0, 0)) (⟨below_drewN (Below.refl _ _) _, fun h => absurd h (by decide)⟩) trivial (by kernel_rfl) (by kernel_rfl) ?_
  iterate 9 ((refine flowU_lateE rfl rfl (fun K hK => ?_); apply Exists.intro; apply And.intro; (focus (intro s0 w' hC hR; have p0 := (hR.bel.cell (p := ⟨W.heap.size, 2, none⟩) hq2).trans x2; have p1 := (hR.bel.cell (p := ⟨wb, 0, none⟩) hlt2).trans w0; have p2 := (hR.bel.cell (p := ⟨bl, o + h.toNat * 3, none⟩) hltb2).trans e0; have p3 := (hR.bel.cell (p := ⟨bl, o + h.toNat * 3 + 1, none⟩) hltb2).trans e1; have p4 := (hR.bel.cell (p := ⟨bl, o + h.toNat * 3 + 2, none⟩) hltb2).trans e2; clear hR; go_simp; (try go_bits); exact rfl)); go_simp; (try go_bits); refine hK _ ?_; clear hK K))
  refine flowU_step (fun v s => ∃ g, v = .pointer (some ⟨g, 0, none⟩) ∧ s = (1, g)) (by decide) rfl ⟨_, _, 0, rfl, rfl⟩ (fun w' hR => ?_) (fun _ _ _ _ _ => trivial) (fun K hK v s2 hs2 => ?_)
  focus
    have hb := hR.bel
    clear hR
    go_simp
    exact ⟨hb.alloc hb.size _, fun _ => ⟨hb.size, heap_new rfl⟩⟩
  obtain ⟨gz, rfl, rfl⟩ := hs2
  (go_simp; refine hK _ _ ?_; clear hK K)
  refine flowU_step (fun v s => v = undef ∧ s = (2, gz)) (by decide) rfl ⟨_, _, rfl, rfl⟩ (fun w' hR => ?_) (fun _ _ _ _ _ => trivial) (fun K hK v s2 hs2 => ?_)
  focus
    obtain ⟨hg, hnow⟩ := hR.one (by decide : 1 ≤ 1)
    rw [if_neg (by decide : ¬ 2 ≤ 1)] at hnow
    have hb := hR.bel
    have hput : (((w'.setCell ⟨gz, 0, none⟩ (.bool (isL y))).setCell ⟨gz, 1, none⟩ (.string (bsS (txt y)))).setCell ⟨gz, 2, none⟩ (.slice yp yn yc)).heap[gz]? = some (.cells #[.bool (isL y), .string (bsS (txt y)), .slice yp yn yc] 51 (0, 0)) := by
      rw [setCell_at (setCell_at (setCell_at hnow 0 _) 1 _) 2]
      rfl
    have hbel := ((hb.setCell (p := ⟨gz, 0, none⟩) hg (.bool (isL y))).setCell (p := ⟨gz, 1, none⟩) hg (.string (bsS (txt y)))).setCell (p := ⟨gz, 2, none⟩) hg (.slice yp yn yc)
    obtain ⟨i0, i1, i2⟩ := cell3 hnow
    have f0 := Lib.frozen_of_heap hnow 0
    have f1 := Lib.frozen_of_heap hnow 1
    have f2 := Lib.frozen_of_heap hnow 2
    clear hR hnow
    go_simp
    exact ⟨hbel, fun _ => ⟨hg, hput⟩⟩
  obtain ⟨rfl, rfl⟩ := hs2
  (go_simp; refine hK _ _ ?_; clear hK K)
  refine flowU_nil ?_
  intro W3 hR3
  have b3 := hR3.bel
  have hs3 := b3.size
  obtain ⟨hg3, n3⟩ := hR3.one (by decide : 1 ≤ 2)
  rw [if_pos (by decide : 2 ≤ 2)] at n3
  clear hR3
  have hw3 := (b3.block wb hlt2).trans hw2
  have h13 := (b3.block (W.heap.size + 1) (by omega)).trans h1
  obtain ⟨v0, v1, v2⟩ := cell3 hw3
  have fr3 := Lib.frozen_of_heap hw3 0
  have hsz : (bsS (h :: t)).size = t.length + 1 := bsS_size (h :: t)
  have hd1 : (bsS (h :: t)).extract 1 (t.length + 1) = bsS t := bs_drop (h :: t) 1 (Nat.le_add_left 1 t.length)
  have hli : (1 : Int) ≤ (t.length : Int) + 1 := by omega
  have hput : (W3.setCell ⟨wb, 0, none⟩ (.string (bsS t))).heap[wb]? = some (wkO t (.slice pa pn pc) val) := by
    rw [setCell_at hw3 0]
    rfl
  have hgw : gz ≠ wb := by omega
  have n4 := (heap_set_ne (W := W3) (j := 0) (v := .string (bsS t)) hgw).trans n3
  have h14 := (heap_set_ne (W := W3) (k := W.heap.size + 1) (p := wb) (j := 0) (v := .string (bsS t)) (by omega)).trans h13
  have hs4 : (W3.setCell ⟨wb, 0, none⟩ (.string (bsS t))).heap.size = W3.heap.size := World.size_setCell ..
  have bW3 : Below W.heap.size W W3 := bB.trans (b3.mono (by omega))
  have hF4 := Fr.setCell (T := fun q => q = wb) ((Fr.refl (fun q => q = wb) W).below bW3) (.inl rfl) (p := ⟨wb, 0, none⟩) (.string (bsS t))
  clear hw3 h13 n3 w0 w1 w2 h1 hw2
  cases y with
  | list m =>
    simp only [isL, txt] at *
    go_wp2
    generalize W3.setCell ⟨wb, 0, none⟩ (.string (bsS t)) = W4 at *
    obtain ⟨y0, y1, y2⟩ := cell3 n4
    have hltg := (Array.getElem?_eq_some_iff.1 n4).1
    refine wp_flowU (fun k => ([1, 1, 1, 1, 0, 0, 0, 0, 2, 1] : List Nat).getD k 1) (stR W4 (W.heap.size + 1) (.cells #[.bool false, .string ⟨#[]⟩, .slice none 0 0] 51 (0, 0)) (.cells #[.bool true, .string (bsS []), .slice yp yn yc] 51 (0, 0))) (fun _ => True) (false) (⟨Fr.drew (Fr.refl _ _), h14⟩) trivial (by kernel_rfl) (by kernel_rfl) ?_
    iterate 4 ((refine flowU_readE rfl rfl (fun K hK => ?_); apply Exists.intro; apply And.intro; (focus (intro w' hR; have q0 := hR.fr.cell y0 (by omega) (by omega); have q1 := hR.fr.cell y1 (by omega) (by omega); have q2 := hR.fr.cell y2 (by omega) (by omega); clear hR; go_simp; (try go_bits); exact rfl)); go_simp; (try go_bits); refine hK _ ?_; clear hK K))
    iterate 3 (first | (refine flowU_skip rfl (fun K hK => ?_); go_simp; (try go_bits); refine hK _ ?_; clear hK K) | (refine flowU_lateE rfl rfl (fun K hK => ?_); apply Exists.intro; apply And.intro; (focus (intro s0 w' hC hR; have q0 := hR.fr.cell y0 (by omega) (by omega); have q1 := hR.fr.cell y1 (by omega) (by omega); have q2 := hR.fr.cell y2 (by omega) (by omega); clear hR; go_simp; (try go_bits); exact rfl)); go_simp; (try go_bits); refine hK _ ?_; clear hK K))
    (refine flowU_lateE rfl rfl (fun K hK => ?_); apply Exists.intro; apply And.intro; (focus (intro s0 w' hC hR; have q0 := hR.fr.cell y0 (by omega) (by omega); have q1 := hR.fr.cell y1 (by omega) (by omega); have q2 := hR.fr.cell y2 (by omega) (by omega); clear hR; go_simp; (try go_bits); exact rfl)); go_simp; (try go_bits); refine hK _ ?_; clear hK K)
    refine flowU_step (fun v s => v = undef ∧ s = true) (by decide) rfl ⟨_, _, rfl, rfl⟩ (fun w' hR => ?_) (fun _ _ _ _ _ => trivial) (fun K hK v s2 hs2 => ?_)
    focus
      have hnow := hR.now
      simp only [Bool.false_eq_true, if_false] at hnow
      have hfr := hR.fr
      have hput : (((w'.setCell ⟨W.heap.size + 1, 0, none⟩ (.bool true)).setCell ⟨W.heap.size + 1, 1, none⟩ (.string (bsS []))).setCell ⟨W.heap.size + 1, 2, none⟩ (.slice yp yn yc)).heap[W.heap.size + 1]? = some (.cells #[.bool true, .string (bsS []), .slice yp yn yc] 51 (0, 0)) := by
        rw [setCell_at (setCell_at (setCell_at hnow 0 _) 1 _) 2]
        rfl
      obtain ⟨i0, i1, i2⟩ := cell3 hnow
      have f0 := Lib.frozen_of_heap hnow 0
      have f1 := Lib.frozen_of_heap hnow 1
      have f2 := Lib.frozen_of_heap hnow 2
      clear hR hnow
      go_simp
      exact ⟨fr_set3 hfr _ _ _, hput⟩
    obtain ⟨rfl, rfl⟩ := hs2
    (go_simp; refine hK _ _ ?_; clear hK K)
    (refine flowU_readE rfl rfl (fun K hK => ?_); apply Exists.intro; apply And.intro; (focus (intro w' hR; have q0 := hR.fr.cell y0 (by omega) (by omega); have q1 := hR.fr.cell y1 (by omega) (by omega); have q2 := hR.fr.cell y2 (by omega) (by omega); clear hR; go_simp; (try go_bits); exact rfl)); go_simp; (try go_bits); refine hK _ ?_; clear hK K)
    refine flowU_nil ?_
    intro W7 hR7
    have f7 := hR7.fr
    have r7 := hR7.now
    rw [if_pos rfl] at r7
    obtain ⟨t0, t1, t2⟩ := cell3 r7
    have hs7 := f7.size
    have hF7 : Fr (fun q => q = wb) W W7 := ⟨f7.os.trans hF4.os, f7.tape.trans hF4.tape, f7.output.trans hF4.output, by have := hF4.size; omega, fun q hq hT => (f7.block q (by have := hF4.size; omega) (by omega)).trans (hF4.block q hq hT)⟩
    have hy7 := hyi.to (F' := F) (W' := W7) fun q hq hc => ⟨hq, hF7.block q hc.lt (hF0 q hq)⟩
    have hw7 := (f7.block wb (by have := hF4.size; omega) (by omega)).trans hput
    clear hR7 f7
    go_wp2
    refine bodyPost_ret (by simp only [results, Tryz.results47]; go_simp; try rfl) rfl ⟨_, by first | rfl | rw [hnb], hy7, hw7, hF7⟩
  | text s =>
    by_cases hs : s = []
    · have hse : (bsS s).toList.isEmpty = true := by rw [bsS_list, hs]; rfl
      have hnb : neI (.text s) = false := by rw [hs]; rfl
      simp only [isL, txt] at *
      clear hs
      go_wp2
      generalize W3.setCell ⟨wb, 0, none⟩ (.string (bsS t)) = W4 at *
      obtain ⟨y0, y1, y2⟩ := cell3 n4
      have hltg := (Array.getElem?_eq_some_iff.1 n4).1
      refine wp_flowU (fun k => ([1, 1, 1, 1, 0, 0, 0, 0, 2, 1] : List Nat).getD k 1) (stR W4 (W.heap.size + 1) (.cells #[.bool false, .string ⟨#[]⟩, .slice none 0 0] 51 (0, 0)) (.cells #[.bool false, .string (bsS s), .slice yp yn yc] 51 (0, 0))) (fun _ => True) (false) (⟨Fr.drew (Fr.refl _ _), h14⟩) trivial (by kernel_rfl) (by kernel_rfl) ?_
      iterate 4 ((refine flowU_readE rfl rfl (fun K hK => ?_); apply Exists.intro; apply And.intro; (focus (intro w' hR; have q0 := hR.fr.cell y0 (by omega) (by omega); have q1 := hR.fr.cell y1 (by omega) (by omega); have q2 := hR.fr.cell y2 (by omega) (by omega); clear hR; go_simp; (try go_bits); exact rfl)); go_simp; (try go_bits); refine hK _ ?_; clear hK K))
      iterate 3 (first | (refine flowU_skip rfl (fun K hK => ?_); go_simp; (try go_bits); refine hK _ ?_; clear hK K) | (refine flowU_lateE rfl rfl (fun K hK => ?_); apply Exists.intro; apply And.intro; (focus (intro s0 w' hC hR; have q0 := hR.fr.cell y0 (by omega) (by omega); have q1 := hR.fr.cell y1 (by omega) (by omega); have q2 := hR.fr.cell y2 (by omega) (by omega); clear hR; go_simp; (try go_bits); exact rfl)); go_simp; (try go_bits); refine hK _ ?_; clear hK K))
      (refine flowU_lateE rfl rfl (fun K hK => ?_); apply Exists.intro; apply And.intro; (focus (intro s0 w' hC hR; have q0 := hR.fr.cell y0 (by omega) (by omega); have q1 := hR.fr.cell y1 (by omega) (by omega); have q2 := hR.fr.cell y2 (by omega) (by omega); clear hR; go_simp; (try go_bits); exact rfl)); go_simp; (try go_bits); refine hK _ ?_; clear hK K)
      refine flowU_step (fun v s => v = undef ∧ s = true) (by decide) rfl ⟨_, _, rfl, rfl⟩ (fun w' hR => ?_) (fun _ _ _ _ _ => trivial) (fun K hK v s2 hs2 => ?_)
      focus
        have hnow := hR.now
        simp only [Bool.false_eq_true, if_false] at hnow
        have hfr := hR.fr
        have hput : (((w'.setCell ⟨W.heap.size + 1, 0, none⟩ (.bool false)).setCell ⟨W.heap.size + 1, 1, none⟩ (.string (bsS s))).setCell ⟨W.heap.size + 1, 2, none⟩ (.slice yp yn yc)).heap[W.heap.size + 1]? = some (.cells #[.bool false, .string (bsS s), .slice yp yn yc] 51 (0, 0)) := by
          rw [setCell_at (setCell_at (setCell_at hnow 0 _) 1 _) 2]
          rfl
        obtain ⟨i0, i1, i2⟩ := cell3 hnow
        have f0 := Lib.frozen_of_heap hnow 0
        have f1 := Lib.frozen_of_heap hnow 1
        have f2 := Lib.frozen_of_heap hnow 2
        clear hR hnow
        go_simp
        exact ⟨fr_set3 hfr _ _ _, hput⟩
      obtain ⟨rfl, rfl⟩ := hs2
      (go_simp; refine hK _ _ ?_; clear hK K)
      (refine flowU_readE rfl rfl (fun K hK => ?_); apply Exists.intro; apply And.intro; (focus (intro w' hR; have q0 := hR.fr.cell y0 (by omega) (by omega); have q1 := hR.fr.cell y1 (by omega) (by omega); have q2 := hR.fr.cell y2 (by omega) (by omega); clear hR; go_simp; (try go_bits); exact rfl)); go_simp; (try go_bits); refine hK _ ?_; clear hK K)
      refine flowU_nil ?_
      intro W7 hR7
      have f7 := hR7.fr
      have r7 := hR7.now
      rw [if_pos rfl] at r7
      obtain ⟨t0, t1, t2⟩ := cell3 r7
      have hs7 := f7.size
      have hF7 : Fr (fun q => q = wb) W W7 := ⟨f7.os.trans hF4.os, f7.tape.trans hF4.tape, f7.output.trans hF4.output, by have := hF4.size; omega, fun q hq hT => (f7.block q (by have := hF4.size; omega) (by omega)).trans (hF4.block q hq hT)⟩
      have hy7 := hyi.to (F' := F) (W' := W7) fun q hq hc => ⟨hq, hF7.block q hc.lt (hF0 q hq)⟩
      have hw7 := (f7.block wb (by have := hF4.size; omega) (by omega)).trans hput
      clear hR7 f7
      go_wp2
      refine bodyPost_ret (by simp only [results, Tryz.results47]; go_simp; try rfl) rfl ⟨_, by first | rfl | rw [hnb], hy7, hw7, hF7⟩
    · have hse : (bsS s).toList.isEmpty = false := by
        rw [bsS_list]
        cases s with
        | nil => exact absurd rfl hs
        | cons _ _ => rfl
      have hnb : neI (.text s) = true := by
        cases s with
        | nil => exact absurd rfl hs
        | cons _ _ => rfl
      simp only [isL, txt] at *
      clear hs
      go_wp2
      generalize W3.setCell ⟨wb, 0, none⟩ (.string (bsS t)) = W4 at *
      obtain ⟨y0, y1, y2⟩ := cell3 n4
      have hltg := (Array.getElem?_eq_some_iff.1 n4).1
      refine wp_flowU (fun k => ([1, 1, 1, 1, 0, 0, 0, 0, 2, 1] : List Nat).getD k 1) (stR W4 (W.heap.size + 1) (.cells #[.bool false, .string ⟨#[]⟩, .slice none 0 0] 51 (0, 0)) (.cells #[.bool false, .string (bsS s), .slice yp yn yc] 51 (0, 0))) (fun _ => True) (false) (⟨Fr.drew (Fr.refl _ _), h14⟩) trivial (by kernel_rfl) (by kernel_rfl) ?_
      iterate 4 ((refine flowU_readE rfl rfl (fun K hK => ?_); apply Exists.intro; apply And.intro; (focus (intro w' hR; have q0 := hR.fr.cell y0 (by omega) (by omega); have q1 := hR.fr.cell y1 (by omega) (by omega); have q2 := hR.fr.cell y2 (by omega) (by omega); clear hR; go_simp; (try go_bits); exact rfl)); go_simp; (try go_bits); refine hK _ ?_; clear hK K))
      iterate 3 (first | (refine flowU_skip rfl (fun K hK => ?_); go_simp; (try go_bits); refine hK _ ?_; clear hK K) | (refine flowU_lateE rfl rfl (fun K hK => ?_); apply Exists.intro; apply And.intro; (focus (intro s0 w' hC hR; have q0 := hR.fr.cell y0 (by omega) (by omega); have q1 := hR.fr.cell y1 (by omega) (by omega); have q2 := hR.fr.cell y2 (by omega) (by omega); clear hR; go_simp; (try go_bits); exact rfl)); go_simp; (try go_bits); refine hK _ ?_; clear hK K))
      (refine flowU_lateE rfl rfl (fun K hK => ?_); apply Exists.intro; apply And.intro; (focus (intro s0 w' hC hR; have q0 := hR.fr.cell y0 (by omega) (by omega); have q1 := hR.fr.cell y1 (by omega) (by omega); have q2 := hR.fr.cell y2 (by omega) (by omega); clear hR; go_simp; (try go_bits); exact rfl)); go_simp; (try go_bits); refine hK _ ?_; clear hK K)
      refine flowU_step (fun v s => v = undef ∧ s = true) (by decide) rfl ⟨_, _, rfl, rfl⟩ (fun w' hR => ?_) (fun _ _ _ _ _ => trivial) (fun K hK v s2 hs2 => ?_)
      focus
        have hnow := hR.now
        simp only [Bool.false_eq_true, if_false] at hnow
        have hfr := hR.fr
        have hput : (((w'.setCell ⟨W.heap.size + 1, 0, none⟩ (.bool false)).setCell ⟨W.heap.size + 1, 1, none⟩ (.string (bsS s))).setCell ⟨W.heap.size + 1, 2, none⟩ (.slice yp yn yc)).heap[W.heap.size + 1]? = some (.cells #[.bool false, .string (bsS s), .slice yp yn yc] 51 (0, 0)) := by
          rw [setCell_at (setCell_at (setCell_at hnow 0 _) 1 _) 2]
          rfl
        obtain ⟨i0, i1, i2⟩ := cell3 hnow
        have f0 := Lib.frozen_of_heap hnow 0
        have f1 := Lib.frozen_of_heap hnow 1
        have f2 := Lib.frozen_of_heap hnow 2
        clear hR hnow
        go_simp
        exact ⟨fr_set3 hfr _ _ _, hput⟩
      obtain ⟨rfl, rfl⟩ := hs2
      (go_simp; refine hK _ _ ?_; clear hK K)
      (refine flowU_readE rfl rfl (fun K hK => ?_); apply Exists.intro; apply And.intro; (focus (intro w' hR; have q0 := hR.fr.cell y0 (by omega) (by omega); have q1 := hR.fr.cell y1 (by omega) (by omega); have q2 := hR.fr.cell y2 (by omega) (by omega); clear hR; go_simp; (try go_bits); exact rfl)); go_simp; (try go_bits); refine hK _ ?_; clear hK K)
      refine flowU_nil ?_
      intro W7 hR7
      have f7 := hR7.fr
      have r7 := hR7.now
      rw [if_pos rfl] at r7
      obtain ⟨t0, t1, t2⟩ := cell3 r7
      have hs7 := f7.size
      have hF7 : Fr (fun q => q = wb) W W7 := ⟨f7.os.trans hF4.os, f7.tape.trans hF4.tape, f7.output.trans hF4.output, by have := hF4.size; omega, fun q hq hT => (f7.block q (by have := hF4.size; omega) (by omega)).trans (hF4.block q hq hT)⟩
      have hy7 := hyi.to (F' := F) (W' := W7) fun q hq hc => ⟨hq, hF7.block q hc.lt (hF0 q hq)⟩
      have hw7 := (f7.block wb (by have := hF4.size; omega) (by omega)).trans hput
      clear hR7 f7
      go_wp2
      refine bodyPost_ret (by simp only [results, Tryz.results47]; go_simp; try rfl) rfl ⟨_, by first | rfl | rw [hnb], hy7, hw7, hF7⟩
end Go.Proofs.YtijidnhaijdfaaaGreatDoor

/- A step of a walk at a leaf, and at what paths have alike: (*walk).step. Conditions: the thing is a node's. -/
namespace Go.Proofs.YtijidnhaijdfaaaGreatDoor
open Go.RowKit
attribute [local go_sem] leftBy leaves Oper.semAt_some
set_option linter.unusedSimpArgs false
set_option linter.unusedVariables false

theorem prefix_same {p k : Bs} (h : p.length = k.length) (hp : p.isPrefixOf k = true) : p = k := by
  obtain ⟨t, ht⟩ := List.isPrefixOf_iff_prefix.1 hp
  have h1 := congrArg List.length ht
  rw [List.length_append] at h1
  have : t = [] := List.eq_nil_of_length_eq_zero (by omega)
  rw [← ht, this, List.append_nil]
/-- Block q is laid anew. -/
theorem put3 {W : World} {q : Nat} {a b c : Value} (h : W.heap[q]? = some (.cells #[a, b, c] 51 (0, 0))) (x y z : Value) : (((W.setCell ⟨q, 0, none⟩ x).setCell ⟨q, 1, none⟩ y).setCell ⟨q, 2, none⟩ z).heap[q]? = some (.cells #[x, y, z] 51 (0, 0)) := by
  rw [setCell_at (setCell_at (setCell_at h 0 _) 1 _) 2]
  rfl
theorem put3_ne {W : World} {q r : Nat} (h : r ≠ q) (x y z : Value) : (((W.setCell ⟨q, 0, none⟩ x).setCell ⟨q, 1, none⟩ y).setCell ⟨q, 2, none⟩ z).heap[r]? = W.heap[r]? := by
  rw [heap_set_ne h, heap_set_ne h, heap_set_ne h]
theorem put3_fr {W0 W : World} {wb q : Nat} (h : Fr (fun k => k = wb) W0 W) (hq : W0.heap.size ≤ q) (x y z : Value) : Fr (fun k => k = wb) W0 (((W.setCell ⟨q, 0, none⟩ x).setCell ⟨q, 1, none⟩ y).setCell ⟨q, 2, none⟩ z) :=
  Fr.setCell (T := fun k => k = wb) (Fr.setCell (T := fun k => k = wb) (Fr.setCell (T := fun k => k = wb) h (.inr hq) x) (.inr hq) y) (.inr hq) z
set_option maxRecDepth 100000 in
set_option maxHeartbeats 8000000 in
theorem step_leaf (F : Nat → Prop) (p w k : Bs) (hp : nib p) (hs : p.length = k.length) (hk : k.length ≤ 1000) (W : World) (wb : Nat) (pr : Value) (hpr : ∃ a n c, pr = .slice a n c) (val : Bs) (hF0 : ∀ q, F q → q ≠ wb) (hwb : W.heap[wb]? = some (wkO k pr val)) (v : Value)
    (hv : itF F W (.list [.text (form true p), .text w]) v) :
    Calls Tryz.prog 47 #[.pointer (some ⟨wb, 0, none⟩), v] W fun e w' => e = .returned (.tuple #[.agg #[.bool false, .string ⟨#[]⟩, .slice none 0 0], .bool false]) ∧ w'.heap[wb]? = some (wkO k pr (if p = k then w else val)) ∧ Fr (fun q => q = wb) W w' := by
  have hlt := (Array.getElem?_eq_some_iff.1 hwb).1
  obtain ⟨pa, pn, pc, rfl⟩ := hpr
  obtain ⟨bl, o, c, rfl, ⟨hFb', hltb⟩, ⟨hc1, _⟩, hit⟩ := itF_list2 hv (by simp)
  have hFb := hF0 bl hFb'
  obtain ⟨yp, yn, yc, a0, a1, a2, _⟩ := hit 0 _ rfl
  obtain ⟨zp, zn, zc, d0, d1, d2, _⟩ := hit 1 _ rfl
  simp only [isL, txt, Nat.zero_mul, Nat.add_zero, Nat.one_mul] at a0 a1 a2 d0 d1 d2
  have cR := fun w => Read_form true p hp (by omega) w
  obtain ⟨bB, z0, h0, h1⟩ := boxes W (.bool true) (.string ⟨#[]⟩) (.slice (some ⟨bl, o, none⟩) 2 c)
  have hw2 := (bB.block wb hlt).trans hwb
  have e1 := (bB.cell (p := ⟨bl, o + 1, none⟩) hltb).trans a1
  have g1 := (bB.cell (p := ⟨bl, o + 3 + 1, none⟩) hltb).trans d1
  clear hit hv
  have hlen2 : ((2 : Int) == 17) = false := rfl
  go_enter Tryz.func47, Tryz.ntmps47
  obtain ⟨x0, x1, x2⟩ := cell3 h0
  obtain ⟨w0, w1, w2⟩ := cell3 hw2
  by_cases hpk : p = k
  · subst hpk
    have cK := fun w => Cut_any p p w
    have hpp : p.isPrefixOf p = true := List.isPrefixOf_iff_prefix.2 (List.prefix_refl p)
    rw [hpp, if_pos rfl, List.drop_length] at cK
    have hnil : (bsS ([] : Bs)).toList.isEmpty = true := by rw [bsS_list]; rfl
    rw [if_pos rfl]
    go_wp2_with (first | (go_at_call 68; refine (cR _).mono ?_; rintro e w3 ⟨rfl, hb3⟩; have hs3 := hb3.size; have h03 := (hb3.block W.heap.size (by omega)).trans h0; have h13 := (hb3.block (W.heap.size + 1) (by omega)).trans h1; have hw3 := (hb3.block wb (by omega)).trans hw2; obtain ⟨u0, u1, u2⟩ := cell3 h03; obtain ⟨v0, v1, v2⟩ := cell3 hw3; obtain ⟨t0, t1, t2⟩ := cell3 h13; have k1 := (hb3.cell (p := ⟨bl, o + 3 + 1, none⟩) (by show bl < _; omega)).trans g1; have f2 := Lib.frozen_of_heap hw3 2; have l0 := Lib.frozen_of_heap h13 0; have l1 := Lib.frozen_of_heap h13 1; have l2 := Lib.frozen_of_heap h13 2) | (go_at_call 44; refine (cK _).mono ?_; rintro e _ ⟨rfl, hww⟩; obtain rfl := hww.symm))
    have hput : (w3.setCell ⟨wb, 2, none⟩ (.string (bsS w))).heap[wb]? = some (wkO p (.slice pa pn pc) w) := by
      rw [setCell_at hw3 2]
      rfl
    have hF3 := Fr.setCell (T := fun q => q = wb) ((Fr.refl (fun q => q = wb) W).below (bB.trans (hb3.mono (by omega)))) (.inl rfl) (p := ⟨wb, 2, none⟩) (.string (bsS w))
    have h14 := (heap_set_ne (W := w3) (k := W.heap.size + 1) (p := wb) (j := 2) (v := .string (bsS w)) (by omega)).trans h13
    have hfin := put3 h14 (.bool false) (.string ⟨#[]⟩) (.slice none 0 0)
    obtain ⟨q0, q1, q2⟩ := cell3 hfin
    refine bodyPost_ret (by simp only [results, Tryz.results47]; go_simp; try rfl) rfl ⟨rfl, (put3_ne (by omega) _ _ _).trans hput, put3_fr hF3 (by omega) _ _ _⟩
  · have cK := fun w => Cut_any k p w
    have hpp : p.isPrefixOf k = false := by
      cases h : p.isPrefixOf k with
      | false => rfl
      | true => exact absurd (prefix_same hs h) hpk
    rw [hpp, if_neg (by decide)] at cK
    rw [if_neg hpk]
    go_wp2_with (first | (go_at_call 68; refine (cR _).mono ?_; rintro e w3 ⟨rfl, hb3⟩; have hs3 := hb3.size; have h03 := (hb3.block W.heap.size (by omega)).trans h0; have h13 := (hb3.block (W.heap.size + 1) (by omega)).trans h1; have hw3 := (hb3.block wb (by omega)).trans hw2; obtain ⟨u0, u1, u2⟩ := cell3 h03; obtain ⟨v0, v1, v2⟩ := cell3 hw3; obtain ⟨t0, t1, t2⟩ := cell3 h13; have k1 := (hb3.cell (p := ⟨bl, o + 3 + 1, none⟩) (by show bl < _; omega)).trans g1; have f2 := Lib.frozen_of_heap hw3 2; have l0 := Lib.frozen_of_heap h13 0; have l1 := Lib.frozen_of_heap h13 1; have l2 := Lib.frozen_of_heap h13 2) | (go_at_call 44; refine (cK _).mono ?_; rintro e _ ⟨rfl, hww⟩; obtain rfl := hww.symm))
    have hF3 := (Fr.refl (fun q => q = wb) W).below (bB.trans (hb3.mono (by omega)))
    have hfin := put3 h13 (.bool false) (.string ⟨#[]⟩) (.slice none 0 0)
    obtain ⟨q0, q1, q2⟩ := cell3 hfin
    refine bodyPost_ret (by simp only [results, Tryz.results47]; go_simp; try rfl) rfl ⟨rfl, (put3_ne (by omega) _ _ _).trans hw3, put3_fr hF3 (by omega) _ _ _⟩
set_option maxRecDepth 100000 in
set_option maxHeartbeats 8000000 in
theorem step_ext (F : Nat → Prop) (p k : Bs) (x : It) (hp : nib p) (hs : p.length ≤ 1000) (hk : k.length ≤ 1000) (W : World) (wb : Nat) (pr : Value) (hpr : ∃ a n c, pr = .slice a n c) (val : Bs) (hF0 : ∀ q, F q → q ≠ wb) (hwb : W.heap[wb]? = some (wkO k pr val)) (v : Value)
    (hv : itF F W (.list [.text (form false p), x]) v) :
    Calls Tryz.prog 47 #[.pointer (some ⟨wb, 0, none⟩), v] W fun e w' => ∃ u, e = .returned (.tuple #[u, .bool (p.isPrefixOf k)]) ∧ itF F w' x u ∧ w'.heap[wb]? = some (wkO (if p.isPrefixOf k then k.drop p.length else k) pr val) ∧ Fr (fun q => q = wb) W w' := by
  have hlt := (Array.getElem?_eq_some_iff.1 hwb).1
  obtain ⟨pa, pn, pc, rfl⟩ := hpr
  obtain ⟨bl, o, c, rfl, ⟨hFb', hltb⟩, ⟨hc1, _⟩, hit⟩ := itF_list2 hv (by simp)
  have hFb := hF0 bl hFb'
  obtain ⟨yp, yn, yc, a0, a1, a2, _⟩ := hit 0 _ rfl
  obtain ⟨zp, zn, zc, d0, d1, d2, hxi⟩ := hit 1 _ rfl
  simp only [isL, txt, Nat.zero_mul, Nat.add_zero] at a0 a1 a2
  rw [Nat.one_mul] at d0 d1 d2
  have cR := fun w => Read_form false p hp (by omega) w
  obtain ⟨bB, z0, h0, h1⟩ := boxes W (.bool true) (.string ⟨#[]⟩) (.slice (some ⟨bl, o, none⟩) 2 c)
  have hw2 := (bB.block wb hlt).trans hwb
  have e1 := (bB.cell (p := ⟨bl, o + 1, none⟩) hltb).trans a1
  have g0 := (bB.cell (p := ⟨bl, o + 3, none⟩) hltb).trans d0
  have g1 := (bB.cell (p := ⟨bl, o + 3 + 1, none⟩) hltb).trans d1
  have g2 := (bB.cell (p := ⟨bl, o + 3 + 2, none⟩) hltb).trans d2
  clear hit hv
  have hlen2 : ((2 : Int) == 17) = false := rfl
  go_enter Tryz.func47, Tryz.ntmps47
  obtain ⟨x0, x1, x2⟩ := cell3 h0
  obtain ⟨w0, w1, w2⟩ := cell3 hw2
  have cK := fun w => Cut_any k p w
  generalize (if p.isPrefixOf k then k.drop p.length else k) = k' at *
  generalize p.isPrefixOf k = ok at *
  go_wp2_with (first | (go_at_call 68; refine (cR _).mono ?_; rintro e w3 ⟨rfl, hb3⟩; have hs3 := hb3.size; have h03 := (hb3.block W.heap.size (by omega)).trans h0; have h13 := (hb3.block (W.heap.size + 1) (by omega)).trans h1; have hw3 := (hb3.block wb (by omega)).trans hw2; obtain ⟨u0, u1, u2⟩ := cell3 h03; obtain ⟨v0, v1, v2⟩ := cell3 hw3; obtain ⟨t0, t1, t2⟩ := cell3 h13; have k0 := (hb3.cell (p := ⟨bl, o + 3, none⟩) (by show bl < _; omega)).trans g0; have k1 := (hb3.cell (p := ⟨bl, o + 3 + 1, none⟩) (by show bl < _; omega)).trans g1; have k2 := (hb3.cell (p := ⟨bl, o + 3 + 2, none⟩) (by show bl < _; omega)).trans g2; have f2 := Lib.frozen_of_heap hw3 0; have l0 := Lib.frozen_of_heap h13 0; have l1 := Lib.frozen_of_heap h13 1; have l2 := Lib.frozen_of_heap h13 2) | (go_at_call 44; refine (cK _).mono ?_; rintro e _ ⟨rfl, hww⟩; obtain rfl := hww.symm))
  have hput : (w3.setCell ⟨wb, 0, none⟩ (.string (bsS k'))).heap[wb]? = some (wkO k' (.slice pa pn pc) val) := by
    rw [setCell_at hw3 0]
    rfl
  have hF3 := Fr.setCell (T := fun q => q = wb) ((Fr.refl (fun q => q = wb) W).below (bB.trans (hb3.mono (by omega)))) (.inl rfl) (p := ⟨wb, 0, none⟩) (.string (bsS k'))
  have h14 := (heap_set_ne (W := w3) (k := W.heap.size + 1) (p := wb) (j := 0) (v := .string (bsS k')) (by omega)).trans h13
  have hfin := put3 h14 (.bool (isL x)) (.string (bsS (txt x))) (.slice zp zn zc)
  obtain ⟨q0, q1, q2⟩ := cell3 hfin
  have hFF := put3_fr hF3 (q := W.heap.size + 1) (by omega) (.bool (isL x)) (.string (bsS (txt x))) (.slice zp zn zc)
  refine bodyPost_ret (by simp only [results, Tryz.results47]; go_simp; try rfl) rfl ⟨_, rfl, hxi.to fun q hq hc => ⟨hq, hFF.block q hc.lt (hF0 q hq)⟩, (put3_ne (by omega) _ _ _).trans hput, hFF⟩
end Go.Proofs.YtijidnhaijdfaaaGreatDoor

/- A walk's node and step, at any node. Conditions: paths of the node's length. -/
namespace Go.Proofs.YtijidnhaijdfaaaGreatDoor
open Go.RowKit
set_option linter.unusedSimpArgs false
set_option linter.unusedVariables false

/-- What lies behind a node on a path's way. -/
def restP (nd : Nd) (k : Bs) : List Bs := match stepN nd k with
  | some pc => prf false pc.2 (k.drop pc.1.length)
  | none => []
theorem prf_rest (f : Bool) (nd : Nd) (k : Bs) : prf f nd k = nodeB f (item nd) ++ restP nd k := prf_step f nd k
theorem res_step {nd : Nd} {k : Bs} {pc : Bs × Nd} (h : stepN nd k = some pc) : res nd k = res pc.2 (k.drop pc.1.length) := by
  cases nd with
  | leaf p v => cases h
  | ext p c =>
    unfold stepN at h
    rw [childL, List.find?_cons] at h
    rw [res]
    cases hp : p.isPrefixOf k with
    | true =>
      rw [hp] at h
      obtain rfl := Option.some.inj h
      rw [if_pos rfl]
    | false =>
      rw [hp] at h
      cases h
  | branch l =>
    unfold stepN at h
    rw [childL] at h
    cases k with
    | nil => rw [csL_none] at h; cases h
    | cons x t =>
      rw [csL_step] at h
      rw [res, resC_get]
      cases hg : l.get x with
      | none => rw [hg] at h; cases h
      | some c =>
        rw [hg] at h
        obtain rfl := Option.some.inj h
        rfl
/-- How a node is referred to: by its digest, or by itself. -/
def refX (f : Bool) (nd : Nd) : It := if (f || decide (32 ≤ (enc (item nd)).length)) = true then .text (dg (enc (item nd))) else item nd
theorem refX_false (nd : Nd) : refX false nd = refI (item nd) := by
  unfold refX refI
  by_cases h : 32 ≤ (enc (item nd)).length
  · rw [decide_eq_true h, Bool.false_or, if_pos rfl, if_neg (by omega)]
  · rw [decide_eq_false h, Bool.false_or, if_neg (by decide), if_pos (by omega)]
theorem node_any (f : Bool) (n : Nat) (nd : Nd) (k : Bs) (hok : ok n nd) (hn : n ≤ 128) (F : Nat → Prop) (W : World) (wb N : Nat) (pr : Value) (hwb : W.heap[wb]? = some (wkO k pr [])) (hpr : rowF (fun q => q < N) W pr ((prf f nd k).map fun s => .string (bsS s))) (hN : N ≤ wb)
    (hlen : (prf f nd k).length ≤ 1000) (hF0 : ∀ q, F q → q ≠ wb) (hFb : ∀ q, W.heap.size ≤ q → F q) (hT : KT W) (h3 : 3 ≤ W.heap.size) (v : Value) (hv : itF F W (refX f nd) v) :
    Calls Tryz.prog 46 #[.pointer (some ⟨wb, 0, none⟩), v] W fun e w' => ∃ u pr', e = .returned (.tuple #[u, .bool true]) ∧ itF F w' (item nd) u ∧ w'.heap[wb]? = some (wkO k pr' []) ∧ rowF (fun q => q < N) w' pr' ((restP nd k).map fun s => .string (bsS s)) ∧ Fr (fun q => q = wb) W w' := by
  have hiN := isNode_ok (n + 1) n nd (Nat.lt_succ_self n) hn hok
  have hlt := (Array.getElem?_eq_some_iff.1 hwb).1
  rw [prf_rest] at hpr hlen
  unfold refX at hv
  unfold nodeB at hpr hlen
  by_cases ht : (f || decide (32 ≤ (enc (item nd)).length)) = true
  · rw [if_pos ht] at hv hpr hlen
    rw [itF] at hv
    subst hv
    obtain ⟨a, c, rfl, ⟨hc1, hc2⟩, hcell⟩ := hpr
    obtain ⟨pb, po, ⟨rfl, hpb⟩, c0⟩ := hcell 0 (.string (bsS (enc (item nd)))) rfl
    rw [Nat.add_zero] at c0
    have hl1 : (([enc (item nd)] ++ restP nd k).map fun s => Value.string (bsS s)).length = (restP nd k).length + 1 := by simp
    rw [hl1] at hc1 hwb
    have hl2 : ([enc (item nd)] ++ restP nd k).length = (restP nd k).length + 1 := by simp
    rw [hl2] at hlen
    refine (node_text (item nd) (isL_item nd) hiN (Nat.lt_of_le_of_lt (dep_item hok) (by decide)) (Nat.le_trans (item_le hn hok) (by decide)) W wb pb po (restP nd k).length c k [] hwb c0 (by omega) hc1 hc2 (by omega) hT h3).mono ?_
    rintro e w' ⟨u, pa, rfl, hu, hw', hpa, hF⟩
    refine ⟨u, _, rfl, hu.to fun q hq _ => ⟨hFb q hq, rfl⟩, hw', ⟨pa, c - 1, by rw [List.length_map], ⟨by rw [List.length_map]; omega, by omega⟩, fun i s hs => ?_⟩, hF⟩
    have hi := (List.getElem?_eq_some_iff.1 hs).1
    rw [List.length_map] at hi
    obtain ⟨bl, o, ⟨e1, hbl⟩, hc⟩ := hcell (i + 1) s (by
      show ((enc (item nd) :: restP nd k).map _)[i + 1]? = _
      rw [List.map_cons, List.getElem?_cons_succ]
      exact hs)
    simp only [Option.some.injEq, Addr.mk.injEq, and_true] at e1
    obtain ⟨rfl, rfl⟩ := e1
    refine ⟨pb, po + 1, ⟨hpa (by omega), hbl⟩, ?_⟩
    rw [show po + 1 + i = po + (i + 1) by omega]
    exact (World.cell?_of_block (a := ⟨pb, po + (i + 1), none⟩) (hF.block pb (lt_of_cell hc) (by omega))).trans hc
  · rw [if_neg ht] at hv hpr hlen
    rw [List.nil_append] at hpr
    refine (node_list (item nd) (isL_item nd) hiN W wb v (hv.to fun q _ _ => ⟨trivial, rfl⟩)).mono ?_
    rintro e w' ⟨rfl, hb⟩
    exact ⟨v, pr, rfl, hv.below hb, (hb.block wb hlt).trans hwb, hpr.to fun q hq hc => ⟨hq, hb.block q hc.lt⟩, (Fr.refl _ W).below hb⟩
/-- A value that is laid as a thing is. -/
def itS (u : Value) : Prop := ∃ (b : Bool) (t : ByteArray) (a : Option Addr) (n c : Nat), u = .agg #[.bool b, .string t, .slice a n c]
theorem itS_of {F : Nat → Prop} {W : World} {x : It} {u : Value} (h : itF F W x u) : itS u := by
  obtain ⟨a, c, rfl, _⟩ := h.form
  exact ⟨_, _, _, _, _, rfl⟩
theorem step_any (n : Nat) (nd : Nd) (k : Bs) (hok : ok n nd) (hn : n ≤ 128) (hk : k.length = n) (F : Nat → Prop) (W : World) (wb : Nat) (pr : Value) (hpr : ∃ a n c, pr = .slice a n c) (hwb : W.heap[wb]? = some (wkO k pr [])) (hF0 : ∀ q, F q → q ≠ wb) (hnib : nib k) (v : Value) (hv : itF F W (item nd) v) :
    Calls Tryz.prog 47 #[.pointer (some ⟨wb, 0, none⟩), v] W fun e w' => ∃ u more, e = .returned (.tuple #[u, .bool more]) ∧ itS u ∧ Fr (fun q => q = wb) W w' ∧
      (more = true → ∃ pc, stepN nd k = some pc ∧ itF F w' (refI (item pc.2)) u ∧ w'.heap[wb]? = some (wkO (k.drop pc.1.length) pr [])) ∧
      (more = false → stepN nd k = none ∧ ∃ k', w'.heap[wb]? = some (wkO k' pr (res nd k))) := by
  cases nd with
  | leaf p w =>
    rw [ok] at hok
    rw [item] at hv
    refine (step_leaf F p w k hok.2.1 (hok.1.trans hk.symm) (by omega) W wb pr hpr [] hF0 hwb v hv).mono ?_
    rintro e w' ⟨rfl, hw', hF⟩
    refine ⟨_, false, rfl, ⟨_, _, _, _, _, rfl⟩, hF, (fun h => by cases h), fun _ => ⟨rfl, k, ?_⟩⟩
    rw [res]
    exact hw'
  | ext p c =>
    rw [ok] at hok
    rw [item] at hv
    refine (step_ext F p k _ hok.2.1 (by omega) (by omega) W wb pr hpr [] hF0 hwb v hv).mono ?_
    rintro e w' ⟨u, rfl, hu, hw', hF⟩
    refine ⟨u, _, rfl, itS_of hu, hF, fun h => ⟨(p, c), ?_, hu, ?_⟩, fun h => ⟨?_, k, ?_⟩⟩
    · unfold stepN
      rw [childL, List.find?_cons, h]
    · rw [h, if_pos rfl] at hw'
      exact hw'
    · unfold stepN
      rw [childL, List.find?_cons, h]
      rfl
    · rw [h, if_neg (by decide)] at hw'
      rw [res, h, if_neg (by decide)]
      exact hw'
  | branch l =>
    rw [ok] at hok
    rw [item] at hv
    cases k with
    | nil =>
      simp at hk
      omega
    | cons h t =>
      have hh : h.toNat < 16 := hnib h (List.mem_cons_self ..)
      rw [List.length_cons] at hk
      have hy : ((List.range 17).map (slot l))[h.toNat]? = some (slot l h.toNat) := by rw [List.getElem?_map, List.getElem?_range (by omega)]; rfl
      refine (step_branch F _ (by rw [List.length_map, List.length_range]) (slot l h.toNat) h t hy W wb pr hpr [] hF0 hwb (by omega) v hv).mono ?_
      rintro e w' ⟨u, rfl, hu, hw', hF⟩
      have hus := itS_of hu
      rw [slot_get] at hu
      rw [slot_get]
      unfold stepN
      rw [childL, csL_step, res, resC_get]
      cases hg : l.get h with
      | none =>
        simp only
        exact ⟨u, false, rfl, hus, hF, (fun h => by cases h), fun _ => ⟨rfl, t, hw'⟩⟩
      | some c =>
        rw [hg] at hu
        simp only at hu ⊢
        have hne : neI (refI (item c)) = true := by
          unfold refI
          split
          · have := isL_item c
            cases hx : item c with
            | text s => rw [hx] at this; cases this
            | list m => rfl
          · have h1 := dg_length (enc (item c))
            cases hd : dg (enc (item c)) with
            | nil => rw [hd] at h1; cases h1
            | cons _ _ => rfl
        rw [hne]
        exact ⟨u, true, rfl, hus, hF, fun _ => ⟨([h], c), rfl, hu, hw'⟩, fun h => by cases h⟩
end Go.Proofs.YtijidnhaijdfaaaGreatDoor

/- What a list of nodes proves: fits, Check. Conditions: the list is a path's way through a trie. -/
namespace Go.Proofs.YtijidnhaijdfaaaGreatDoor
open Go.RowKit
attribute [local go_sem] leftBy leaves Oper.semAt_some
set_option linter.unusedSimpArgs false
set_option linter.unusedVariables false

set_option maxRecDepth 100000 in
set_option maxHeartbeats 8000000 in
theorem fits_any (root : Bs) (P : List Bs) (pv : Value) (W : World) (hr : root.length = 32) (hP : P.length ≤ 140) (hl : ∀ s ∈ P, s.length ≤ 65536) (hpv : rowF (fun _ => True) W pv (P.map fun s => .string (bsS s))) :
    Calls Tryz.prog 45 #[.string (bsS root), pv] W fun e w' => e = .returned (.bool true) ∧ Below W.heap.size W w' := by
  obtain ⟨a, c, rfl, _, hcell⟩ := hpv
  rw [List.length_map]
  have hz := bsS_size root
  rw [hr] at hz
  have hPi : (P.length : Int) ≤ 140 := by omega
  go_enter Tryz.func45, Tryz.ntmps45
  go_wp2
  go_loopw [9] (fun x wr => ∃ i : Nat, i ≤ P.length ∧ x = .int .i64 (i : Nat) ∧ wr = W) (fun x _ => P.length - (intOf x).toNat)
  case atStart => exact ⟨0, Nat.zero_le _, rfl, rfl⟩
  case round =>
    obtain ⟨i, hil, rfl, rfl⟩ := hrel
    by_cases hlt : i < P.length
    · obtain ⟨s, hs⟩ : ∃ s, P[i]? = some s := ⟨_, List.getElem?_eq_getElem hlt⟩
      obtain ⟨bl, o, ⟨rfl, _⟩, c0⟩ := hcell i (.string (bsS s)) (by rw [List.getElem?_map, hs]; rfl)
      have hlti : (i : Int) < (P.length : Int) := by omega
      have hsz := bsS_size s
      have hs1 := hl s (List.mem_of_getElem? hs)
      have hs2 : ¬ (65536 : Int) < (s.length : Int) := by omega
      have hs3 : ¬ 65536 < s.length := by omega
      clear hcell hs hs1
      go_wp2
      exact ⟨⟨i + 1, by omega, by go_num, trivial⟩, by simp [intOf]; omega⟩
    · obtain rfl : i = P.length := by omega
      go_wp2
      refine bodyPost_ret (by simp only [results, Tryz.results45]; go_simp; try rfl) rfl ⟨rfl, Below.refl _ _⟩
/-- Between two steps of Check. -/
structure ckI (W : World) (wb tb : Nat) (R : Bs) (wr : World) : Prop where
  bel : Below W.heap.size W wr
  at_ : ∃ (f : Bool) (n : Nat) (nd : Nd) (k : Bs) (pr b t s : Value), ok n nd ∧ n ≤ 128 ∧ k.length = n ∧ nib k ∧ (prf f nd k).length ≤ 1000 ∧ res nd k = R ∧ wr.heap[wb]? = some (wkO k pr []) ∧ rowF (fun q => q < W.heap.size) wr pr ((prf f nd k).map fun s => .string (bsS s)) ∧ wr.heap[tb]? = some (.cells #[b, t, s] 51 (0, 0)) ∧ itF (fun q => q ≠ wb ∧ q ≠ tb) wr (refX f nd) (.agg #[b, t, s])
def wkLen (wb : Nat) (W : World) : Nat := match W.heap[wb]? with
  | some (.cells c _ _) => match c[0]? with
    | some (Value.string s) => s.size
    | _ => 0
  | _ => 0
theorem wkLen_of {wb : Nat} {W : World} {k val : Bs} {pr : Value} (h : W.heap[wb]? = some (wkO k pr val)) : wkLen wb W = k.length := by
  unfold wkLen
  rw [h]
  exact bsS_size k
set_option maxRecDepth 100000 in
set_option maxHeartbeats 8000000 in
theorem Check_any (n : Nat) (nd : Nd) (key : Bs) (W : World) (hok : ok n nd) (hn : n ≤ 128) (hk : 2 * key.length = n) (hk0 : 1 ≤ key.length) (hlen : (prf true nd (halves key)).length ≤ 140) (hl : ∀ s ∈ prf true nd (halves key), s.length ≤ 65536) (pv : Value)
    (hpv : rowF (fun _ => True) W pv ((prf true nd (halves key)).map fun s => .string (bsS s))) (hT : KT W) (h3 : 3 ≤ W.heap.size) :
    Calls Tryz.prog 24 #[.string (bsS (dg (enc (item nd)))), .string (bsS key), pv] W fun e w' => e = .returned (.tuple #[.string (bsS (res nd (halves key))), .bool (!(res nd (halves key)).isEmpty), .int .i64 0]) ∧ Below W.heap.size W w' := by
  have cF := fun w (h : Below W.heap.size W w) => fits_any (dg (enc (item nd))) (prf true nd (halves key)) pv w (dg_length _) hlen hl (hpv.to fun q _ hc => ⟨trivial, h.block q hc.lt⟩)
  have hpr : ∀ w, Below W.heap.size W w → rowF (fun q => q < W.heap.size) w pv ((prf true nd (halves key)).map fun s => .string (bsS s)) := fun w h => hpv.to fun q _ hc => ⟨hc.lt, h.block q hc.lt⟩
  have hpl : (prf true nd (halves key)).length = (restP nd (halves key)).length + 1 := by rw [prf_rest, List.length_append]; show 1 + _ = _; omega
  obtain ⟨pa, pc, rfl, _⟩ := hpv
  rw [List.length_map, hpl] at cF hpr ⊢
  have hkz := bsS_size key
  have hki : ¬ (64 : Int) < (key.length : Int) := by omega
  have hkj : ¬ 64 < key.length := by omega
  have hkem : (bsS key).toList.isEmpty = false := by
    rw [bsS_list]
    cases key with
    | nil => simp at hk0
    | cons _ _ => rfl
  have hne0 : (((restP nd (halves key)).length : Int) + 1 == 0) = false := by
    rw [beq_eq_false_iff_ne]
    omega
  have cO := fun w => Of_any key (by omega) w
  have cFh := Lib.hid cF
  have hprh := Lib.hid hpr
  have hTh := Lib.hid hT
  have hokh := Lib.hid hok
  have hlenh := Lib.hid hlen
  clear cF hpr hT hok hlen hl
  obtain ⟨R, hR⟩ : ∃ R, R = res nd (halves key) := ⟨_, rfl⟩
  rw [← hR]
  go_enter Tryz.func24, Tryz.ntmps24
  go_wp2
  go_step3
  go_wp2_with (first | (go_at_call 45; refine (cFh.out _ (Below.refl _ W)).mono ?_; rintro e w2 ⟨rfl, hb2⟩) | (go_at_call 43; refine (cO _).mono ?_; rintro e w3 ⟨rfl, hb3⟩) | (go_at_call 13; refine (Text_any _ _).mono ?_; rintro e w4 ⟨rfl, hb4⟩))
  have hw3 := heap_new (w := w3) (o := .cells #[.string (bsS (halves key)), .slice pa ((restP nd (halves key)).length + 1) pc, .string ⟨#[]⟩] 117) rfl
  have hz3 : (w3.alloc (.cells #[.string (bsS (halves key)), .slice pa ((restP nd (halves key)).length + 1) pc, .string ⟨#[]⟩] 117)).heap.size = w3.heap.size + 1 := World.size_alloc _ _
  have b3 : Below W.heap.size W (w3.alloc (.cells #[.string (bsS (halves key)), .slice pa ((restP nd (halves key)).length + 1) pc, .string ⟨#[]⟩] 117)) := (hb2.trans (hb3.mono hb2.size)).alloc (Nat.le_trans hb2.size hb3.size) _
  generalize w3.alloc (.cells #[.string (bsS (halves key)), .slice pa ((restP nd (halves key)).length + 1) pc, .string ⟨#[]⟩] 117) = w3' at *
  have hs2 := hb2.size
  have hs3 := hb3.size
  have hs4 := hb4.size
  have hw4 := (hb4.block w3.heap.size (by omega)).trans hw3
  have b4 := b3.trans (hb4.mono b3.size)
  have hst : ckI W w3.heap.size w4.heap.size R (w4.alloc (.cells #[.bool false, .string (bsS (dg (enc (item nd)))), .slice none 0 0] 51)) :=
    ⟨b4.alloc b4.size _, true, n, nd, halves key, _, _, _, _, hokh.out, hn, by rw [halves_length, hk], nib_halves _, Nat.le_trans hlenh.out (by decide), hR.symm, (Below.heap_alloc _ _ _ (by omega)).trans hw4, hprh.out _ (b4.alloc b4.size _), heap_new rfl, by unfold refX; rw [Bool.true_or, if_pos rfl, itF]⟩
  have htw : w3.heap.size < w4.heap.size := by omega
  have hWw : W.heap.size ≤ w3.heap.size := by omega
  generalize w4.alloc (.cells #[.bool false, .string (bsS (dg (enc (item nd)))), .slice none 0 0] 51) = W5 at *
  generalize w3.heap.size = wb at *
  generalize w4.heap.size = tb at *
  clear hw3 hz3 b3 hs2 hs3 hs4 hw4 b4 hb2 hb3 hb4 hprh hokh hlenh cFh hR
  go_step3
  go_wp2
  go_loopw [] (fun wr => ckI W wb tb R wr) (fun wr => wkLen wb wr)
  case atStart => exact hst
  case round =>
    clear hst
    obtain ⟨bel, f, n', nd', k, pr, b, t, s, hok, hn', hkl, hnib, hlen, hres, hwb, hpr, htb, hit⟩ := hrel
    have hsz := bel.size
    have hlw := (Array.getElem?_eq_some_iff.1 hwb).1
    have hlt := (Array.getElem?_eq_some_iff.1 htb).1
    have cN := node_any f n' nd' k hok hn' (fun q => q ≠ wb ∧ q ≠ tb) wr wb W.heap.size pr hwb hpr hWw hlen (fun q h => h.1) (fun q hq => ⟨by omega, by omega⟩) (hTh.out.below bel h3) (by omega) _ hit
    have cNh := Lib.hid cN
    obtain ⟨bb, bt, ba, bn, bc, rfl, rfl, rfl⟩ : ∃ (bb : Bool) (bt : ByteArray) (ba : Option Addr) (bn bc : Nat), b = .bool bb ∧ t = .string bt ∧ s = .slice ba bn bc := by
      obtain ⟨a, c, he, _⟩ := hit.form
      simp only [Value.agg.injEq] at he
      have e := congrArg Array.toList he
      simp only [List.cons.injEq, and_true] at e
      exact ⟨_, _, _, _, _, e.1, e.2.1, e.2.2⟩
    obtain ⟨t0, t1, t2⟩ := cell3 htb
    have hlh := Lib.hid hlen
    clear cN hit hpr hlen
    refine wp_hide fun QQ hQQ => ?_
    have cSh := Lib.hid fun w pr' hp h1 u hu => step_any n' nd' k hok hn' hkl (fun q => q ≠ wb ∧ q ≠ tb) w wb pr' hp h1 (fun q h => h.1) hnib u hu
    go_wp2_with (first | (go_at_call 46; refine cNh.out.mono ?_; rintro e w6 ⟨u, pr', rfl, hu, hw6, hpr6, hF6⟩; obtain ⟨ua, uc, rfl, _⟩ := hu.form; have hs6 := hF6.size; have hb7 := (Below.refl _ w6).alloc (Nat.le_refl _) (.cells #[.bool (isL (item nd')), .string (bsS (txt (item nd'))), .slice ua (subs (item nd')).length uc] 51); have hu7 := hu.below hb7; have hw7 := (hb7.block wb (by omega)).trans hw6; obtain ⟨pra, prc, rfl, hprc⟩ := hpr6) | (go_at_call 47; refine (cSh.out _ _ ⟨_, _, _, rfl⟩ hw7 _ hu7).mono ?_; rintro e w8 ⟨u2, more, rfl, ⟨b2, t2, a2, n2, c2, rfl⟩, hF8, hm1, hm2⟩; have hs7 := hb7.size; have hs8 := hF8.size; have hb9 := (Below.refl _ w8).alloc (Nat.le_refl _) (.cells #[.bool b2, .string t2, .slice a2 n2 c2] 51); have htb8 := (hF8.block tb (by omega) (by omega)).trans ((hb7.block tb (by omega)).trans ((hF6.block tb hlt (by omega)).trans htb)); have htb9 := (hb9.block tb (by omega)).trans htb8; obtain ⟨j0, j1, j2⟩ := cell3 htb9; have k0 := Lib.frozen_of_heap htb9 0; have k1 := Lib.frozen_of_heap htb9 1; have k2 := Lib.frozen_of_heap htb9 2; obtain ⟨i0, i1, i2⟩ := cell3 (heap_new (w := w8) (o := .cells #[.bool b2, .string t2, .slice a2 n2 c2] 51) rfl); have hm1h := Lib.hid hm1; have hm2h := Lib.hid hm2; clear hm1 hm2))
    · rename_i hmr
      obtain rfl : more = false := by simpa using hmr
      obtain ⟨hsN, k', hw8⟩ := hm2h.out rfl
      have hr0 : restP nd' k = [] := by unfold restP; rw [hsN]
      rw [hr0, hres] at hw8
      rw [List.map_nil, List.length_nil] at hw8
      have hw9 := (hb9.block wb (by omega)).trans hw8
      obtain ⟨l0, l1, l2⟩ := cell3 hw9
      have hbf : Below W.heap.size W (w8.alloc (.cells #[.bool b2, .string t2, .slice a2 n2 c2] 51)) := (fr_below ((fr_below bel hF6 hWw hsz).trans (hb7.mono (by omega))) hF8 hWw (by omega)).trans (hb9.mono (by omega))
      clear hm1h hm2h hw8 cSh cNh hlh hprc
      refine hQQ.out _ _ _ ?_
      simp only [Exit.then, Exit.inBlock]
      go_wp2
      first | refine wp_flow (fun k => ([1, 1, 1, 1, 1, 1, 1, 1, 1, 1, 1, 1] : List Nat).getD k 1) Dr _ (Dr.next _ _) (by kernel_rfl) (by kernel_rfl) ?_ | refine wp_flow (fun k => ([1, 1, 1, 1, 1, 1, 1, 1, 1, 1, 1, 1] : List Nat).getD k 1) Dr _ (Dr.one _) (by kernel_rfl) (by kernel_rfl) ?_
      iterate 12 ((refine flow_quiet rfl rfl (fun K hK => ?_); apply Exists.intro; apply And.intro; (focus (rintro w' ⟨nn, rfl⟩; go_simp; (try go_bits); exact ⟨rfl, Dr.of _ _⟩)); go_simp; (try go_bits); refine hK _ ?_; clear hK K))
      refine flow_nil ?_
      rintro w' ⟨nq, rfl⟩
      go_wp2
      rw [Exit.noGoto_ret]
      refine bodyPost_ret (by simp only [results, Tryz.results24]; go_simp; try rfl) rfl ⟨by rw [bsS_list], below_drewN hbf _⟩
    · rename_i hmr
      obtain rfl : more = true := by simpa using hmr
      obtain ⟨pc2, hsN, hu8, hw8⟩ := hm1h.out rfl
      have hr0 : prf false pc2.2 (k.drop pc2.1.length) = restP nd' k := by unfold restP; rw [hsN]
      obtain ⟨hl1, hl2, hl3⟩ := stepN_ok hok hsN
      have hres2 := (res_step hsN).symm.trans hres
      have hlen2 : (prf false pc2.2 (k.drop pc2.1.length)).length ≤ 1000 := by
        have h1 := hlh.out
        rw [prf_rest, List.length_append] at h1
        rw [hr0]
        omega
      have hbf : Below W.heap.size W (w8.alloc (.cells #[.bool b2, .string t2, .slice a2 n2 c2] 51)) := (fr_below ((fr_below bel hF6 hWw hsz).trans (hb7.mono (by omega))) hF8 hWw (by omega)).trans (hb9.mono (by omega))
      have hp9 : rowF (fun q => q < W.heap.size) (w8.alloc (.cells #[.bool b2, .string t2, .slice a2 n2 c2] 51)) (.slice pra ((restP nd' k).map fun s => Value.string (bsS s)).length prc) ((restP nd' k).map fun s => .string (bsS s)) :=
        rowF.to (F := fun q => q < W.heap.size) (W := w6) (fun q hq hc => ⟨hq, (hb9.block q (by omega)).trans ((hF8.block q (by omega) (by omega)).trans (hb7.block q hc.lt))⟩) ⟨pra, prc, rfl, hprc⟩
      have hw9 := (hb9.block wb (by omega)).trans hw8
      have hu9 := hu8.below hb9
      rw [← refX_false] at hu9
      generalize w8.alloc (.cells #[.bool b2, .string t2, .slice a2 n2 c2] 51) = W9 at *
      have hbt : Below W.heap.size W (((W9.setCell ⟨tb, 0, none⟩ (.bool b2)).setCell ⟨tb, 1, none⟩ (.string t2)).setCell ⟨tb, 2, none⟩ (.slice a2 n2 c2)) := ((hbf.setCell (p := ⟨tb, 0, none⟩) (by show _ ≤ tb; omega) _).setCell (p := ⟨tb, 1, none⟩) (by show _ ≤ tb; omega) _).setCell (p := ⟨tb, 2, none⟩) (by show _ ≤ tb; omega) _
      have hwT := (put3_ne (W := W9) (q := tb) (r := wb) (by omega) (.bool b2) (.string t2) (.slice a2 n2 c2)).trans hw9
      have hfin : ckI W wb tb R (((W9.setCell ⟨tb, 0, none⟩ (.bool b2)).setCell ⟨tb, 1, none⟩ (.string t2)).setCell ⟨tb, 2, none⟩ (.slice a2 n2 c2)) :=
        ⟨hbt, false, n' - pc2.1.length, pc2.2, k.drop pc2.1.length, _, _, _, _, hl3, by omega, by rw [List.length_drop, hkl], hnib.drop _, hlen2, hres2, hwT, by rw [hr0]; exact hp9.to fun q hq _ => ⟨hq, put3_ne (by omega) _ _ _⟩, put3 htb9 _ _ _, hu9.to fun q hq _ => ⟨hq, put3_ne hq.2 _ _ _⟩⟩
      have hmea : wkLen wb (((W9.setCell ⟨tb, 0, none⟩ (.bool b2)).setCell ⟨tb, 1, none⟩ (.string t2)).setCell ⟨tb, 2, none⟩ (.slice a2 n2 c2)) < wkLen wb wr := by
        rw [wkLen_of hwT, wkLen_of hwb, List.length_drop]
        omega
      have hfinh := Lib.hid hfin
      have hmeah := Lib.hid hmea
      clear hm1h hm2h hw8 cSh cNh hlh hprc hfin hmea hp9 hw9 hu9 hbt hwT hres2 hlen2
      go_wp2
      refine hQQ.out _ _ _ ?_
      simp only [Exit.then, Exit.inBlock]
      go_roundw
      case rel => exact hfinh.out
      case measure => exact hmeah.out
end Go.Proofs.YtijidnhaijdfaaaGreatDoor

/- What the way of a key proves: proven. Conditions: pairs that are right. -/
namespace Go.Proofs.YtijidnhaijdfaaaGreatDoor
open Go.RowKit
attribute [local go_sem] leftBy leaves Oper.semAt_some
set_option linter.unusedSimpArgs false
set_option linter.unusedVariables false

theorem prf_len : ∀ (m n : Nat) (nd : Nd) (k : Bs) (f : Bool), n < m → n ≤ 128 → ok n nd → (prf f nd k).length ≤ n + 1 ∧ ∀ s ∈ prf f nd k, s.length ≤ 1200
  | 0, n, nd, k, f, h, _, _ => absurd h (Nat.not_lt_zero _)
  | m + 1, n, nd, k, f, hm, hn, hok => by
    have hB : (nodeB f (item nd)).length ≤ 1 ∧ ∀ s ∈ nodeB f (item nd), s.length ≤ 1200 := by
      have h1 := item_le hn hok
      unfold nodeB
      split
      · exact ⟨Nat.le_refl _, fun s hs => by rw [List.mem_singleton.1 hs]; exact h1⟩
      · exact ⟨Nat.zero_le _, fun s hs => by cases hs⟩
    have hR : (restP nd k).length ≤ n ∧ ∀ s ∈ restP nd k, s.length ≤ 1200 := by
      unfold restP
      cases hs : stepN nd k with
      | none => exact ⟨Nat.zero_le _, fun s hs => by cases hs⟩
      | some pc =>
        obtain ⟨h1, h2, h3⟩ := stepN_ok hok hs
        obtain ⟨h4, h5⟩ := prf_len m (n - pc.1.length) pc.2 (k.drop pc.1.length) false (by omega) (by omega) h3
        exact ⟨by show (prf false pc.2 _).length ≤ n; omega, h5⟩
    rw [prf_rest, List.length_append]
    exact ⟨by omega, fun s hs => (List.mem_append.1 hs).elim (hB.2 s) (hR.2 s)⟩
/-- What a key has, out of pairs. -/
def valOf (kl : Nat) (L : List Lf) (key : Bs) : Bs := res (trieN kl L) (halves key)
theorem valOf_spec {kl : Nat} {L : List Lf} (h : okP kl L) (hne : L ≠ []) (k : Bs) (hk : k.length = kl) : (∀ v, (k, v) ∈ L → valOf kl L k = v) ∧ ((∀ v, (k, v) ∉ L) → valOf kl L k = []) := trieN_res h hne k hk
set_option maxRecDepth 100000 in
set_option maxHeartbeats 8000000 in
theorem proven_any (kl : Nat) (v : Value) (L : List Lf) (key : Bs) (W : World) (hp : okP kl L) (hne : L ≠ []) (hk : key.length = kl) (hv : lvF (fun _ => True) W v L) (hT : KT W) (h3 : 3 ≤ W.heap.size) :
    Calls Tryz.prog 9 #[v, .string (bsS key)] W fun e w' => e = .returned (.tuple #[.string (bsS (valOf kl L key)), .bool (!(valOf kl L key).isEmpty), .bool true]) ∧ Below W.heap.size W w' := by
  have hok := trieN_ok hp hne
  have hpl := prf_len (2 * kl + 1) (2 * kl) (trieN kl L) (halves key) true (Nat.lt_succ_self _) (by have := hp.top; omega) hok
  have hn := hp.top
  have hn1 := hp.one
  have c1 := Root_any kl v L W hp hne hv hT h3
  have c2 := fun w (hb : Below W.heap.size W w) => Prove_any kl v L key w hp hne hk (hv.below hb) (hT.below hb h3) (by have := hb.size; omega)
  have c3 := fun w (hb : Below W.heap.size W w) pv hpv => Check_any (2 * kl) (trieN kl L) key w hok (by omega) (by rw [hk]) (by omega) (by omega) (fun s hs => Nat.le_trans (hpl.2 s hs) (by decide)) pv hpv (hT.below hb h3) (by have := hb.size; omega)
  unfold valOf
  clear hpl hok hp hne
  generalize bsS (dg (enc (item (trieN kl L)))) = rs at c1 c3
  generalize (prf true (trieN kl L) (halves key)).map (fun s => Value.string (bsS s)) = PL at c2 c3
  generalize res (trieN kl L) (halves key) = R at c3 ⊢
  obtain ⟨a, c, rfl, _⟩ := hv
  have c1h := Lib.hid c1
  have c2h := Lib.hid c2
  have c3h := Lib.hid c3
  clear c1 c2 c3
  go_enter Tryz.func9, Tryz.ntmps9
  go_wp2_with (go_at_call 22; with_reducible refine c1h.out.mono ?_; rintro e w2 ⟨rfl, hb2⟩)
  with_reducible refine (c2h.out _ hb2).mono ?_
  rintro e w3 ⟨u, rfl, hu, hb3⟩
  have hb23 := hb2.trans (hb3.mono hb2.size)
  have hu2 := hu.to (F' := fun _ => True) (W' := w3) (fun q _ _ => ⟨trivial, rfl⟩)
  obtain ⟨ua, uc, rfl, hrest⟩ := hu
  go_wp2_with (go_at_call 24; with_reducible refine (c3h.out _ hb23 _ hu2).mono ?_; rintro e w4 ⟨rfl, hb4⟩)
  refine bodyPost_ret (by simp only [results, Tryz.results9]; go_simp; try rfl) rfl ⟨rfl, hb23.trans (hb4.mono hb23.size)⟩
end Go.Proofs.YtijidnhaijdfaaaGreatDoor
