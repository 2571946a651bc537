/-
  A node of 17 items is one: isNode. Conditions: its references are ones.
-/
import Derived.RangeFuncBox
import Derived.Test.YtijidnhaijdfaaaGreatDoorPR28
namespace Go.Proofs.YtijidnhaijdfaaaGreatDoor
open Go.RowKit
attribute [local go_sem] leftBy leaves Oper.semAt_some
set_option linter.unusedSimpArgs false
set_option linter.unusedVariables false

theorem refG_mem {L : List It} {n k : Nat} (h : k < (refG L n).length) : (refG L n).getD k 0 < n ∧ neI (L.getD ((refG L n).getD k 0) (.text [])) = true := by
  rw [List.getD_eq_getElem?_getD, List.getElem?_eq_getElem h, Option.getD_some]
  have h1 := List.mem_filter.1 (List.getElem_mem h)
  exact ⟨List.mem_range.1 h1.1, h1.2⟩
structure isB0 (W : World) (c0 c1 c2 : Value) (X : World) : Prop where
  bel : Below W.heap.size W X
  siz : W.heap.size + 3 ≤ X.heap.size
  box : X.heap[W.heap.size]? = some (.cells #[c0, c1, c2] 51 (0, 0))
  res : X.heap[W.heap.size + 1]? = some (.cells #[.bool false] 4 (0, 0))
  ref : X.heap[W.heap.size + 2]? = some (.cells #[c0, c1, c2] 51 (0, 0))
theorem isB0.keep {W X Y : World} {c0 c1 c2 : Value} (h : isB0 W c0 c1 c2 X) (hb : Below W.heap.size X Y) (hc : ∀ q, cellsAt X q → Y.heap[q]? = X.heap[q]?) : isB0 W c0 c1 c2 Y :=
  ⟨h.bel.trans hb, Nat.le_trans h.siz hb.size, (hc _ ⟨_, _, _, h.box⟩).trans h.box, (hc _ ⟨_, _, _, h.res⟩).trans h.res, (hc _ ⟨_, _, _, h.ref⟩).trans h.ref⟩
theorem isB0.below {W X Y : World} {c0 c1 c2 : Value} (h : isB0 W c0 c1 c2 X) (hb : Below X.heap.size X Y) : isB0 W c0 c1 c2 Y := h.keep (hb.mono (by have := h.siz; omega)) fun q hq => hb.block q hq.lt
theorem isB0.turned {W X Y : World} {c0 c1 c2 : Value} {l : Nat} (h : isB0 W c0 c1 c2 X) (hl : W.heap.size ≤ l) (ht : recTurned l X Y) : isB0 W c0 c1 c2 Y := h.keep (turned_below ht hl) fun q hq => ht.cellsAt hq
theorem box3 (W : World) (a b c : Value) : isB0 W a b c (((W.alloc (.cells #[a, b, c] 51)).alloc (.cells #[.bool false] 4)).alloc (.cells #[a, b, c] 51)) := by
  obtain ⟨bB, zB, h0, h1⟩ := box2 W a b c
  exact ⟨bB.alloc (by omega) _, by rw [World.size_alloc]; omega, (Below.heap_alloc _ _ _ (by omega)).trans h0, (Below.heap_alloc _ _ _ (by omega)).trans h1, heap_new (by omega)⟩
set_option maxRecDepth 100000 in
set_option maxHeartbeats 8000000 in
theorem isNode_branch (L : List It) (hL : L.length = 17) (h16 : ∀ x, L[16]? = some x → isL x = false) (hR : ∀ i x, i < 16 → L[i]? = some x → neI x = true → isT 88 x) : isT 67 (.list L) := by
  intro W v hv
  obtain ⟨bl, o, c, rfl, hlt, ⟨hc1, hc2⟩, hit⟩ := itF_list hv (fun e => by rw [e] at hL; cases hL)
  rw [hL] at hc1 ⊢
  have hith := Lib.hid hit
  have hRh := Lib.hid hR
  obtain ⟨x16, hx16⟩ : ∃ x, L[16]? = some x := ⟨_, List.getElem?_eq_getElem (by omega)⟩
  obtain ⟨p6, n6, c6, d0, d1, d2, _⟩ := hit 16 x16 hx16
  rw [h16 x16 hx16] at d0
  have hc2h := Lib.hid hc2
  have hst := box3 W (.bool true) (.string ⟨#[]⟩) (.slice (some ⟨bl, o, none⟩) 17 c)
  clear hit hR hv hc2 h16 hx16 d1 d2
  refine calls_FW (n := 9) ?_
  refine callsIn_of_wp_marks Tryz.func67 rfl trivial ?_ rfl
  simp only [Tryz.ntmps67, List.size_toArray, List.length_cons, List.length_nil, Nat.reduceAdd, Nat.reduceSub, Array.replicate_succ, Array.replicate_zero, List.push_toArray, List.append_toArray, List.nil_append, List.cons_append]
  refine wpIn_hide fun QQ hQQ => ?_
  gi_wp2_with (gi_at_call 87; refine (callsIn_FW (refs_any _ _ _ _)).mono ?_; rintro e w4 ⟨rfl, rfl⟩)
  have z0 : (((W.alloc (.cells #[.bool true, .string ⟨#[]⟩, .slice (some ⟨bl, o, none⟩) 17 c] 51)).alloc (.cells #[.bool false] 4)).alloc (.cells #[.bool true, .string ⟨#[]⟩, .slice (some ⟨bl, o, none⟩) 17 c] 51)).heap.size = W.heap.size + 3 := by simp
  generalize ((W.alloc (.cells #[.bool true, .string ⟨#[]⟩, .slice (some ⟨bl, o, none⟩) 17 c] 51)).alloc (.cells #[.bool false] 4)).alloc (.cells #[.bool true, .string ⟨#[]⟩, .slice (some ⟨bl, o, none⟩) 17 c] 51) = w0 at *
  obtain ⟨V, hV⟩ : ∃ V : Nat → Value, V = fun i => .agg #[(W.cell? ⟨bl, o + i * 3, none⟩).getD undef, (W.cell? ⟨bl, o + i * 3 + 1, none⟩).getD undef, (W.cell? ⟨bl, o + i * 3 + 2, none⟩).getD undef] := ⟨_, rfl⟩
  have hVi : ∀ i x, L[i]? = some x → ∃ sp sn sc, W.cell? ⟨bl, o + i * 3, none⟩ = some (.bool (isL x)) ∧ W.cell? ⟨bl, o + i * 3 + 1, none⟩ = some (.string (bsS (txt x))) ∧ W.cell? ⟨bl, o + i * 3 + 2, none⟩ = some (.slice sp sn sc) ∧ V i = .agg #[.bool (isL x), .string (bsS (txt x)), .slice sp sn sc] ∧ itF (fun _ => True) W x (V i) := fun i x hx => by
    obtain ⟨p, n, cc, e0, e1, e2, hi⟩ := hith.out i x hx
    have e : V i = .agg #[.bool (isL x), .string (bsS (txt x)), .slice p n cc] := by rw [hV]; simp only [e0, e1, e2, Option.getD_some]
    exact ⟨p, n, cc, e0, e1, e2, e, by rw [e]; exact hi⟩
  have hVh := Lib.hid hVi
  clear hVi hV
  refine wpIn_rangeFunc_list (by omega) (gf := 105) (lb := #[.pointer (some ⟨W.heap.size + 1 + 1, 0, none⟩)]) rfl trivial (enters_of Tryz.func105 (by kernel_rfl) rfl)
    (refG L 16).length (fun k => #[V ((refG L 16).getD k 0)]) (fun _ => rfl) (fun _ _ => True) (fun _ X => isB0 W (.bool true) (.string ⟨#[]⟩) (.slice (some ⟨bl, o, none⟩) 17 c) X) (fun k X Y h hb => h.below hb) (fun k l X Y h hl ht => h.turned (by omega) ht) (fun _ _ _ _ _ => trivial) (fun _ _ _ => trivial) (fun _ _ _ _ _ => trivial)
    hst ?hiter ?hround ?hdone
  case hiter =>
    intro l J X hJI hJb hY hJ0 hbX
    exact refs_it 8 (by omega) l (W.heap.size + 2) bl o c L hL hc1 hc2h.out V J X hJb (fun k Y hJ => by
      have hI := hJI k Y hJ
      refine ⟨by rw [Lib.cell_of_heap hI.ref]; rfl, fun i x hx => ?_⟩
      obtain ⟨sp, sn, sc, e0, e1, e2, e3, _⟩ := hVh.out i x hx
      exact ⟨sp, sn, sc, (hI.bel.cell (p := ⟨bl, _, none⟩) hlt).trans e0, (hI.bel.cell (p := ⟨bl, _, none⟩) hlt).trans e1, (hI.bel.cell (p := ⟨bl, _, none⟩) hlt).trans e2, e3⟩) hY hJ0
  case hround =>
    intro l k X hl hI hk
    obtain ⟨hi16, hne⟩ := refG_mem hk
    generalize (refG L 16).getD k 0 = i at *
    obtain ⟨x, hx⟩ : ∃ x, L[i]? = some x := ⟨_, List.getElem?_eq_getElem (by omega)⟩
    rw [List.getD_eq_getElem?_getD, hx] at hne
    obtain ⟨sp, sn, sc, _, _, _, hVe, hit⟩ := hVh.out i x hx
    have cR := hRh.out i x hi16 hx hne
    rw [hVe] at hit ⊢
    have b1 : Below X.heap.size X (X.alloc (.cells #[.bool (isL x), .string (bsS (txt x)), .slice sp sn sc] 51)) := (Below.refl _ X).alloc (Nat.le_refl _) _
    have hI1 := hI.below b1
    gi_wp2
    refine ⟨b1, fun W2 ht => ?_⟩
    have hI2 := hI1.turned (by omega) ht
    have n1 : W2.heap[X.heap.size]? = some (.cells #[.bool (isL x), .string (bsS (txt x)), .slice sp sn sc] 51 (0, 0)) := ht.cells (heap_new rfl) rfl
    obtain ⟨y0, y1, y2⟩ := cell3 n1
    have cR2 := cR W2 _ (hit.below hI2.bel)
    clear n1 cR hit hI1 b1 hI
    gi_wp2_with (gi_at_call 88; refine (callsIn_FW cR2).mono ?_; rintro e w4 ⟨rfl, hb4⟩)
    exact ⟨⟨hb4.size, fun q o _ ho _ => (hb4.block q (Array.getElem?_eq_some_iff.1 ho).1).trans ho⟩, hI2.below hb4⟩
  case hdone =>
    intro D X hD hI hd
    have dX := (hI.bel.cell (p := ⟨bl, o + 16 * 3, none⟩) hlt).trans d0
    obtain ⟨x0, x1, x2⟩ := cell3 hI.box
    have r0 := hI.res
    have q0 := Lib.cell_of_heap r0 0
    have f0 := Lib.frozen_of_heap r0 0
    have hs1 := set_same (v := .bool true) r0
    have hs2 := Lib.cell_of_heap hs1 0
    have hDr : D ≠ W.heap.size + 1 := fun e => by
      rw [e, r0] at hd
      cases hd
    have hd2 : (X.setCell ⟨W.heap.size + 1, 0, none⟩ (.bool true)).heap[D]? = some (.deferred (some [])) := (heap_set_ne hDr).trans hd
    have bX := hI.bel.setCell (p := ⟨W.heap.size + 1, 0, none⟩) (by show _ ≤ W.heap.size + 1; omega) (.bool true)
    simp only [List.getElem?_toArray, List.getElem?_cons_zero] at q0
    clear hst hI
    gi_wp2
    refine hQQ.out _ _ _ ?_
    have hcT : ∀ o', ((X.setCell ⟨W.heap.size + 1, 0, none⟩ (.bool true)).putObj D o').cell? ⟨W.heap.size + 1, 0, none⟩ = some (.bool true) := fun o' =>
      (World.cell?_of_block (a := ⟨W.heap.size + 1, 0, none⟩) (recTurned.cellsAt (l := D) ⟨_, o', hd2, rfl, rfl⟩ ⟨_, _, _, hs1⟩)).trans hs2
    refine ⟨by simp, .inl ⟨_, _, rfl, run_takeDeferred hd2, _, (by simp only [results, Tryz.results67]; go_simp; try rfl), rfl, ?_⟩⟩
    exact bX.trans (turned_below (show recTurned D (X.setCell ⟨W.heap.size + 1, 0, none⟩ (.bool true)) _ from ⟨_, _, hd2, rfl, rfl⟩) (by omega))
/-- A node's item is a node; how it is referred to is a reference. -/
theorem ref_of {x : It} (hx : isL x = true) (h : isT 67 x) : isT 88 (refI x) := by
  unfold refI
  split
  · exact isRef_node x hx h
  · exact isRef_text _ (dg_length _)
theorem isL_item (nd : Nd) : isL (item nd) = true := by cases nd <;> rw [item] <;> rfl
theorem isNode_ok : ∀ (m n : Nat) (nd : Nd), n < m → n ≤ 128 → ok n nd → isT 67 (item nd)
  | 0, n, nd, h, _, _ => absurd h (Nat.not_lt_zero _)
  | m + 1, n, .leaf p v, hn, h128, h => by
    rw [ok] at h
    rw [item]
    exact isNode_leaf p v h.2.1 (by omega) h.2.2.1
  | m + 1, n, .ext p c, hn, h128, h => by
    rw [ok] at h
    obtain ⟨h1, h2, h3, _, h4⟩ := h
    have h5 := List.length_pos_iff.2 h1
    rw [item]
    exact isNode_ext p _ h2 (by omega) h1 (ref_of (isL_item c) (isNode_ok m (n - p.length) c (by omega) (by omega) h4))
  | m + 1, n, .branch l, hn, h128, h => by
    rw [ok] at h
    rw [item]
    refine isNode_branch _ (by rw [List.length_map, List.length_range]) (fun x hx => ?_) (fun i x hi hx hne => ?_)
    · rw [List.getElem?_map, List.getElem?_range (by omega : 16 < 17)] at hx
      obtain rfl := Option.some.inj hx
      rw [slot16 h.2]
      rfl
    · rw [List.getElem?_map, List.getElem?_range (by omega : i < 17)] at hx
      obtain rfl := Option.some.inj hx
      rcases slot_cases i h.2 with e | ⟨c, hc, e⟩
      · rw [e] at hne
        cases hne
      · rw [e]
        exact ref_of (isL_item c) (isNode_ok m (n - 1) c (by omega) (by omega) hc)
end Go.Proofs.YtijidnhaijdfaaaGreatDoor
