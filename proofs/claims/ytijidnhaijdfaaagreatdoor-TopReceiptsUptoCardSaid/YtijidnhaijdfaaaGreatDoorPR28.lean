/-
  What is a node: isNode, isRef. Conditions: items of nodes.
-/
import Derived.Test.YtijidnhaijdfaaaGreatDoorPR26
import Derived.Test.YtijidnhaijdfaaaGreatDoorPR27
namespace Go.Proofs.YtijidnhaijdfaaaGreatDoor
open Go.RowKit
attribute [local go_sem] leftBy leaves Oper.semAt_some
set_option linter.unusedSimpArgs false
set_option linter.unusedVariables false

/-- The i-th thing of a slice, in a world. -/
def itAt (W : World) (bl o i : Nat) (x : It) : Prop := ∃ p n c, W.cell? ⟨bl, o + i * 3, none⟩ = some (.bool (isL x)) ∧ W.cell? ⟨bl, o + i * 3 + 1, none⟩ = some (.string (bsS (txt x))) ∧ W.cell? ⟨bl, o + i * 3 + 2, none⟩ = some (.slice p n c) ∧ itF (fun _ => True) W x (.agg #[.bool (isL x), .string (bsS (txt x)), .slice p n c])
theorem itsF_at {F : Nat → Prop} {W : World} {a : Option Addr} : ∀ {l : List It} (j : Nat), itsF F W a j l → ∀ (i : Nat) (x : It), l[i]? = some x → ∃ bl o, a = some ⟨bl, o, none⟩ ∧ bl < W.heap.size ∧ itAt W bl o (j + i) x
  | [], j, _, i, x, h => by cases h
  | y :: l, j, h, i, x, hx => by
    rw [itsF] at h
    obtain ⟨⟨bl, o, b, t, s, ⟨ha, hf⟩, ⟨c0, c1, c2⟩, hi⟩, hr⟩ := h
    cases i with
    | zero =>
      obtain rfl := Option.some.inj hx
      obtain ⟨p, c, he, _⟩ := hi.form
      simp only [Value.agg.injEq] at he
      have e := congrArg Array.toList he
      simp only [List.cons.injEq, and_true] at e
      obtain ⟨rfl, rfl, rfl⟩ := e
      exact ⟨bl, o, ha, lt_of_cell c0, p, _, c, c0, c1, c2, hi.to fun k _ _ => ⟨trivial, rfl⟩⟩
    | succ i =>
      have := itsF_at (j + 1) hr i x hx
      rw [show j + 1 + i = j + (i + 1) by omega] at this
      exact this
theorem itAt.below {W W' : World} {bl o i : Nat} {x : It} (h : itAt W bl o i x) (hl : bl < W.heap.size) (hb : Below W.heap.size W W') : itAt W' bl o i x := by
  obtain ⟨p, n, c, c0, c1, c2, hi⟩ := h
  exact ⟨p, n, c, (hb.cell (p := ⟨bl, _, none⟩) hl).trans c0, (hb.cell (p := ⟨bl, _, none⟩) hl).trans c1, (hb.cell (p := ⟨bl, _, none⟩) hl).trans c2, hi.below hb⟩
/-- A list's value, its things. -/
theorem itF_list {F : Nat → Prop} {W : World} {l : List It} {v : Value} (h : itF F W (.list l) v) (hl : l ≠ []) : ∃ bl o c, v = .agg #[.bool true, .string ⟨#[]⟩, .slice (some ⟨bl, o, none⟩) l.length c] ∧ bl < W.heap.size ∧ (l.length ≤ c ∧ c ≤ maxLen) ∧ ∀ (i : Nat) (x : It), l[i]? = some x → itAt W bl o i x := by
  rw [itF] at h
  obtain ⟨a, c, rfl, hc, hi⟩ := h
  obtain ⟨x, hx⟩ : ∃ x, l[0]? = some x := ⟨_, List.getElem?_eq_getElem (List.length_pos_iff.2 hl)⟩
  obtain ⟨bl, o, rfl, hlt, _⟩ := itsF_at 0 hi 0 x hx
  refine ⟨bl, o, c, rfl, hlt, hc, fun i y hy => ?_⟩
  obtain ⟨bl', o', e, _, h2⟩ := itsF_at 0 hi i y hy
  simp only [Option.some.injEq, Addr.mk.injEq, and_true] at e
  obtain ⟨rfl, rfl⟩ := e
  rw [Nat.zero_add] at h2
  exact h2
def isT (f : Nat) (x : It) : Prop := ∀ (W : World) (v : Value), itF (fun _ => True) W x v → Calls Tryz.prog f #[v] W fun e w' => e = .returned (.bool true) ∧ Below W.heap.size W w'
theorem box2 (W : World) (a b c : Value) : Below W.heap.size W ((W.alloc (.cells #[a, b, c] 51)).alloc (.cells #[.bool false] 4)) ∧ ((W.alloc (.cells #[a, b, c] 51)).alloc (.cells #[.bool false] 4)).heap.size = W.heap.size + 2 ∧
    ((W.alloc (.cells #[a, b, c] 51)).alloc (.cells #[.bool false] 4)).heap[W.heap.size]? = some (.cells #[a, b, c] 51 (0, 0)) ∧ ((W.alloc (.cells #[a, b, c] 51)).alloc (.cells #[.bool false] 4)).heap[W.heap.size + 1]? = some (.cells #[.bool false] 4 (0, 0)) :=
  ⟨((Below.refl _ W).alloc (Nat.le_refl _) _).alloc (by simp) _, by simp, (Below.heap_alloc _ _ _ (by simp)).trans (heap_new rfl), heap_new (by simp)⟩
set_option maxRecDepth 100000 in
set_option maxHeartbeats 8000000 in
theorem isNode_leaf (p w : Bs) (hp : nib p) (hs : p.length ≤ 100000) (hw : w ≠ []) : isT 67 (.list [.text (form true p), .text w]) := by
  intro W v hv
  obtain ⟨bl, o, c, rfl, hlt, hc, hit⟩ := itF_list hv (by simp)
  obtain ⟨p0, n0, c0, a0, a1, a2, _⟩ := hit 0 _ rfl
  obtain ⟨p1, n1, c1, b0, b1, b2, _⟩ := hit 1 _ rfl
  have cR := fun w => Read_form true p hp hs w
  have hwe : (bsS w).toList.isEmpty = false := by
    rw [bsS_list]
    cases w with
    | nil => exact absurd rfl hw
    | cons _ _ => rfl
  simp only [isL, txt, Nat.zero_mul, Nat.add_zero, Nat.one_mul] at a0 a1 a2 b0 b1 b2
  clear hit hv hc hw
  go_enter Tryz.func67, Tryz.ntmps67
  obtain ⟨bB, zB, h0, h1⟩ := box2 W (.bool true) (.string ⟨#[]⟩) (.slice (some ⟨bl, o, none⟩) 2 c)
  go_wp2_with (go_at_call 68; refine (cR _).mono ?_; rintro e w3 ⟨rfl, hb3⟩; (have z3 := hb3.size); (have r3 := (hb3.block (W.heap.size + 1) (by omega)).trans h1); (have q3 := Lib.cell_of_heap r3 0); (have f3 := Lib.frozen_of_heap r3 0); (have x3 := (hb3.block W.heap.size (by omega)).trans h0); (obtain ⟨x30, x31, x32⟩ := cell3 x3); (have d0 := (hb3.cell (p := ⟨bl, o, none⟩) (by show bl < _; omega)).trans ((bB.cell (p := ⟨bl, o, none⟩) hlt).trans a0)); (have d1 := (hb3.cell (p := ⟨bl, o + 1, none⟩) (by show bl < _; omega)).trans ((bB.cell (p := ⟨bl, o + 1, none⟩) hlt).trans a1)); (have g0 := (hb3.cell (p := ⟨bl, o + 3, none⟩) (by show bl < _; omega)).trans ((bB.cell (p := ⟨bl, o + 3, none⟩) hlt).trans b0)); (have g1 := (hb3.cell (p := ⟨bl, o + 3 + 1, none⟩) (by show bl < _; omega)).trans ((bB.cell (p := ⟨bl, o + 3 + 1, none⟩) hlt).trans b1)); (have g2 := (hb3.cell (p := ⟨bl, o + 3 + 2, none⟩) (by show bl < _; omega)).trans ((bB.cell (p := ⟨bl, o + 3 + 2, none⟩) hlt).trans b2)))
  have hs3 := set_same (v := .bool true) r3
  have hc3 := Lib.cell_of_heap hs3 0
  refine bodyPost_ret (by simp only [results, Tryz.results67]; go_simp; try rfl) rfl ⟨rfl, ?_⟩
  exact (bB.trans (hb3.mono (by omega))).setCell (p := ⟨W.heap.size + 1, 0, none⟩) (by show _ ≤ W.heap.size + 1; omega) _
set_option maxRecDepth 100000 in
set_option maxHeartbeats 8000000 in
theorem isRef_text (s : Bs) (hs : s.length = 32) : isT 88 (.text s) := by
  intro W v hv
  rw [itF] at hv
  subst hv
  have hz := bsS_size s
  rw [hs] at hz
  have h0 := heap_new (w := W) (o := .cells #[.bool false, .string (bsS s), .slice none 0 0] 51) rfl
  obtain ⟨x0, x1, x2⟩ := cell3 h0
  clear h0
  go_enter Tryz.func88, Tryz.ntmps88
  go_wp2
  refine bodyPost_ret (by simp only [results, Tryz.results88]; go_simp; try rfl) rfl ⟨rfl, ?_⟩
  exact (Below.refl _ W).alloc (Nat.le_refl _) _
set_option maxRecDepth 100000 in
set_option maxHeartbeats 8000000 in
theorem isRef_node (x : It) (hx : isL x = true) (h : isT 67 x) : isT 88 x := by
  intro W v hv
  obtain ⟨p, c, rfl, _⟩ := hv.form
  rw [hx] at hv ⊢
  have h0 := heap_new (w := W) (o := .cells #[.bool true, .string (bsS (txt x)), .slice p (subs x).length c] 51) rfl
  obtain ⟨x0, x1, x2⟩ := cell3 h0
  have b1 : Below W.heap.size W (W.alloc (.cells #[.bool true, .string (bsS (txt x)), .slice p (subs x).length c] 51)) := (Below.refl _ W).alloc (Nat.le_refl _) _
  have cN := h _ _ (hv.below b1)
  clear h0 h hv
  go_enter Tryz.func88, Tryz.ntmps88
  go_wp2_with (go_at_call 67; refine cN.mono ?_; rintro e w3 ⟨rfl, hb3⟩)
  refine bodyPost_ret (by simp only [results, Tryz.results88]; go_simp; try rfl) rfl ⟨rfl, ?_⟩
  exact b1.trans (hb3.mono (by simp))
set_option maxRecDepth 100000 in
set_option maxHeartbeats 8000000 in
theorem isNode_ext (p : Bs) (x : It) (hp : nib p) (hs : p.length ≤ 100000) (hp0 : p ≠ []) (hR : isT 88 x) : isT 67 (.list [.text (form false p), x]) := by
  intro W v hv
  obtain ⟨bl, o, c, rfl, hlt, hc, hit⟩ := itF_list hv (by simp)
  obtain ⟨p0, n0, c0, a0, a1, a2, _⟩ := hit 0 _ rfl
  obtain ⟨p1, n1, c1, b0, b1, b2, hx⟩ := hit 1 _ rfl
  have cR := fun w => Read_form false p hp hs w
  have hwe : (bsS p).toList.isEmpty = false := by
    rw [bsS_list]
    cases p with
    | nil => exact absurd rfl hp0
    | cons _ _ => rfl
  simp only [isL, txt, Nat.zero_mul, Nat.add_zero, Nat.one_mul] at a0 a1 a2
  rw [Nat.one_mul] at b0 b1 b2
  clear hit hv hc hp0
  go_enter Tryz.func67, Tryz.ntmps67
  obtain ⟨bB, zB, h0, h1⟩ := box2 W (.bool true) (.string ⟨#[]⟩) (.slice (some ⟨bl, o, none⟩) 2 c)
  have cQ := fun w (hb : Below W.heap.size W w) => hR w _ (hx.below hb)
  clear hR hx
  go_wp2_with (first | (go_at_call 68; refine (cR _).mono ?_; rintro e w3 ⟨rfl, hb3⟩; (have z3 := hb3.size); (have r3 := (hb3.block (W.heap.size + 1) (by omega)).trans h1); (have q3 := Lib.cell_of_heap r3 0); (have f3 := Lib.frozen_of_heap r3 0); (have x3 := (hb3.block W.heap.size (by omega)).trans h0); (obtain ⟨x30, x31, x32⟩ := cell3 x3); (have d0 := (hb3.cell (p := ⟨bl, o, none⟩) (by show bl < _; omega)).trans ((bB.cell (p := ⟨bl, o, none⟩) hlt).trans a0)); (have d1 := (hb3.cell (p := ⟨bl, o + 1, none⟩) (by show bl < _; omega)).trans ((bB.cell (p := ⟨bl, o + 1, none⟩) hlt).trans a1)); (have g0 := (hb3.cell (p := ⟨bl, o + 3, none⟩) (by show bl < _; omega)).trans ((bB.cell (p := ⟨bl, o + 3, none⟩) hlt).trans b0)); (have g1 := (hb3.cell (p := ⟨bl, o + 3 + 1, none⟩) (by show bl < _; omega)).trans ((bB.cell (p := ⟨bl, o + 3 + 1, none⟩) hlt).trans b1)); (have g2 := (hb3.cell (p := ⟨bl, o + 3 + 2, none⟩) (by show bl < _; omega)).trans ((bB.cell (p := ⟨bl, o + 3 + 2, none⟩) hlt).trans b2)); have cQ3 := cQ w3 (bB.trans (hb3.mono (by omega)))) | (go_at_call 88; refine cQ3.mono ?_; rintro e w4 ⟨rfl, hb4⟩; have r4 := (hb4.block (W.heap.size + 1) (by omega)).trans r3; have q4 := Lib.cell_of_heap r4 0; have f4 := Lib.frozen_of_heap r4 0))
  have hs4 := set_same (v := .bool true) r4
  have hc4 := Lib.cell_of_heap hs4 0
  refine bodyPost_ret (by simp only [results, Tryz.results67]; go_simp; try rfl) rfl ⟨rfl, ?_⟩
  exact ((bB.trans (hb3.mono (by omega))).trans (hb4.mono (by omega))).setCell (p := ⟨W.heap.size + 1, 0, none⟩) (by show _ ≤ W.heap.size + 1; omega) _
end Go.Proofs.YtijidnhaijdfaaaGreatDoor
