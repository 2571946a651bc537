/-
  Things one behind the other: all. Conditions: the bytes are those of things, at most a million.
-/
import Derived.OwnWalkIn
import Derived.Test.YtijidnhaijdfaaaGreatDoorPR16
import Derived.Test.YtijidnhaijdfaaaGreatDoorPR4
namespace Go.Proofs.YtijidnhaijdfaaaGreatDoor
open Go.RowKit
attribute [local go_sem] leftBy leaves Oper.semAt_some
set_option linter.unusedSimpArgs false
set_option linter.unusedVariables false

theorem items_any (s : ByteArray) (W : World) : Calls Tryz.prog 69 #[.string s] W fun e w' => e = .returned (.func (.func 89) #[] #[.pointer (some ⟨W.heap.size, 0, none⟩)]) ∧ w' = W.alloc (.cells #[.string s] 9) := by
  go_enter Tryz.func69, Tryz.ntmps69
  go_wp2
  go_ret
  exact ⟨rfl, rfl⟩
theorem row_put3 {W : World} {B g n cap : Nat} {e : TypeId} {xs : List Value} {z0 z1 z2 : Value} (h : W.ownsRow B e 3 (.slice (some ⟨g, 0, none⟩) (n + 1) cap) (n + 1) (xs ++ [z0, z1, z2])) (hx : xs.length = n * 3) (b t s : Value) :
    (((W.setCell ⟨g, n * 3, none⟩ b).setCell ⟨g, n * 3 + 1, none⟩ t).setCell ⟨g, n * 3 + 2, none⟩ s).ownsRow B e 3 (.slice (some ⟨g, 0, none⟩) (n + 1) cap) (n + 1) (xs ++ [b, t, s]) := by
  refine ⟨by have := h.1; simp only [List.length_append, List.length_cons, List.length_nil] at this ⊢; omega, ?_⟩
  rcases h.2 with ⟨h, _⟩ | ⟨g', cap', cur, hv, h2, h3, h4, h5, h6, h7⟩
  · cases h
  · obtain ⟨rfl, rfl⟩ : g = g' ∧ cap = cap' := by simpa using hv
    refine .inr ⟨g, cap, _, rfl, h2, setCell_at (setCell_at (setCell_at h3 _ _) _ _) _ _, h4, h5, by simp [h6], ?_⟩
    rw [Array.toList_setIfInBounds, Array.toList_setIfInBounds, Array.toList_setIfInBounds, List.take_set, List.take_set, List.take_set, h7, ← hx]
    simp [List.set_append]
theorem row_get3 {W : World} {B g n cap : Nat} {e : TypeId} {xs : List Value} {z0 z1 z2 : Value} (h : W.ownsRow B e 3 (.slice (some ⟨g, 0, none⟩) (n + 1) cap) (n + 1) (xs ++ [z0, z1, z2])) (hx : xs.length = n * 3) :
    (W.cell? ⟨g, n * 3, none⟩ = some z0 ∧ W.cell? ⟨g, n * 3 + 1, none⟩ = some z1 ∧ W.cell? ⟨g, n * 3 + 2, none⟩ = some z2) ∧ ∀ j, W.frozen? ⟨g, j, none⟩ = false := by
  have hc := h.cells (g := g) rfl
  simp only [addr_add, Nat.zero_add] at hc
  refine ⟨⟨hc _ _ (by rw [← hx]; simp), hc _ _ (by rw [← hx]; simp), hc _ _ (by rw [← hx]; simp)⟩, fun j => ?_⟩
  rcases h.2 with ⟨h, _⟩ | ⟨g', cap', cur, hv, h2, h3, h4⟩
  · cases h
  · obtain ⟨rfl, rfl⟩ : g = g' ∧ cap = cap' := by simpa using hv
    exact Lib.frozen_of_heap h3 j
/-- Between two rounds of all. -/
structure alJ (W0 : World) (L : List It) (k : Nat) (X : World) : Prop where
  fr : Below W0.heap.size W0 X
  size : W0.heap.size + 3 ≤ X.heap.size
  good : X.heap[W0.heap.size + 1]? = some (.cells #[.bool true] 4 (0, 0))
  row : ∃ v xs, X.heap[W0.heap.size]? = some (.cells #[v] 49 (0, 0)) ∧ X.ownsRow (W0.heap.size + 3) 51 3 v k xs ∧ cellsF (fun q => W0.heap.size + 3 ≤ q ∧ v.ownBlock ≠ some q) X (L.take k) xs
theorem alJ.keep {W0 X X' : World} {L : List It} {k : Nat} (h : alJ W0 L k X) (hb : Below W0.heap.size X X') (hk : ∀ q, W0.heap.size ≤ q → q ≠ W0.heap.size + 2 → cellsAt X q → X'.heap[q]? = X.heap[q]?) : alJ W0 L k X' := by
  obtain ⟨fr, hz, good, v, xs, hv, hr, hc⟩ := h
  refine ⟨fr.trans hb, Nat.le_trans hz hb.size, (hk _ (by omega) (by omega) ⟨_, _, _, good⟩).trans good, v, xs, (hk _ (by omega) (by omega) ⟨_, _, _, hv⟩).trans hv, row_same hr fun g hg hcg => hk g ?_ ?_ hcg, hc.to fun q hq hcq => ⟨hq, hk q (by omega) (by omega) hcq⟩⟩
  · have := row_lt hr g hg
    omega
  · have := row_lt hr g hg
    omega
theorem alJ.below {W0 X X' : World} {L : List It} {k : Nat} (h : alJ W0 L k X) (hb : Below X.heap.size X X') : alJ W0 L k X' :=
  h.keep (hb.mono (by have := h.size; omega)) fun q _ _ hc => hb.block q hc.lt
theorem alJ.turned {W0 X X' : World} {L : List It} {k l : Nat} (h : alJ W0 L k X) (hl : W0.heap.size ≤ l) (ht : recTurned l X X') : alJ W0 L k X' :=
  h.keep (turned_below ht hl) fun q _ _ hc => ht.cellsAt hc
theorem alJ.set {W0 X : World} {L : List It} {k : Nat} (h : alJ W0 L k X) (v : Value) : alJ W0 L k (X.setCell ⟨W0.heap.size + 2, 0, none⟩ v) :=
  h.keep ((Below.refl _ _).setCell (p := ⟨W0.heap.size + 2, 0, none⟩) (by simp) _) fun q _ h2 _ => heap_set_ne h2

theorem infoT : (Tryz.prog.info? 51).map (fun i => (i.zero, i.size, i.bytes)) = some (some (.agg #[.bool false, .string ⟨#[]⟩, .slice none 0 0]), 3, 48) := by kernel_rfl
/-- Where a region stands that puts a thing behind others: the new cell's block, whether it is appended, stored, kept. -/
structure ApS where
  z : Option Nat
  ap : Bool
  el : Bool
  bx : Bool
  g : Nat
  cap : Nat
structure apR (W1 : World) (B q : Nat) (v : Value) (n : Nat) (xs vc : List Value) (s : ApS) (w' : World) : Prop where
  fr : Fr (fun k => v.ownBlock = some k ∨ k = q) W1 w'
  box : w'.heap[q]? = some (.cells #[if s.bx then .slice (some ⟨s.g, 0, none⟩) (n + 1) s.cap else v] 49 (0, 0))
  row : s.ap = false → w'.ownsRow B 51 3 v n xs
  one : s.ap = false → ∀ g, s.z = some g → W1.heap.size ≤ g ∧ w'.heap[g]? = some (.cells #[.bool false, .string ⟨#[]⟩, .slice none 0 0] 51 (0, 0))
  new : s.ap = true → w'.ownsRow B 51 3 (.slice (some ⟨s.g, 0, none⟩) (n + 1) s.cap) (n + 1) (xs ++ if s.el then vc else [.bool false, .string ⟨#[]⟩, .slice none 0 0])
  loc : s.ap = true → v.ownBlock = some s.g ∨ W1.heap.size ≤ s.g
def apT (n : Nat) (k : Nat) (s : ApS) (v : Value) (s2 : ApS) : Prop := match k with
  | 3 => ∃ g, v = .slice (some ⟨g, 0, none⟩) 1 1 ∧ s2 = { s with z := some g }
  | 4 => ∃ g cap, v = .slice (some ⟨g, 0, none⟩) (n + 1) cap ∧ s2 = { s with ap := true, g := g, cap := cap }
  | 6 => v = undef ∧ s2 = { s with el := true }
  | 7 => v = undef ∧ s2 = { s with bx := true }
  | _ => False
def apV (n : Nat) (v x : Value) (k : Nat) (s : ApS) : Value := match k with
  | 0 => v
  | 1 => x
  | 2 => .int .i64 (n : Nat)
  | _ => .pointer (some ⟨s.g, n * 3, none⟩)

set_option maxRecDepth 100000 in
set_option maxHeartbeats 16000000 in
theorem all_step (L : List It) (hL : (encs L).length ≤ 1000000) (hA : ∀ m, .list m ∈ L → allP m) : allP L := by
  intro W
  obtain ⟨i0, hi, hz0, hz1, hz2⟩ := info_parts infoT
  have hcnt := encs_count L
  refine calls_FW (n := 9) ?_
  refine callsIn_of_wp_marks Tryz.func48 rfl trivial ?_ rfl
  simp only [Tryz.ntmps48, List.size_toArray, List.length_cons, List.length_nil, Nat.reduceAdd, Nat.reduceSub, Array.replicate_succ, Array.replicate_zero, List.push_toArray, List.append_toArray, List.nil_append, List.cons_append]
  gi_wp2
  refine wpIn_scope rfl ?_
  gi_wp2
  refine wpIn_label ?_
  gi_wp2_with (gi_at_call 69; refine (callsIn_FW (items_any _ _)).mono ?_; rintro e w' ⟨rfl, rfl⟩)
  have bB : Below W.heap.size W (((W.alloc (.cells #[.slice none 0 0] 49)).alloc (.cells #[.bool true] 4)).alloc (.cells #[.string (bsS (encs L))] 9)) := (((Below.refl _ W).alloc (Nat.le_refl _) _).alloc (by simp) _).alloc (by simp; omega) _
  have z0 : (((W.alloc (.cells #[.slice none 0 0] 49)).alloc (.cells #[.bool true] 4)).alloc (.cells #[.string (bsS (encs L))] 9)).heap.size = W.heap.size + 3 := by simp
  have h0 : (((W.alloc (.cells #[.slice none 0 0] 49)).alloc (.cells #[.bool true] 4)).alloc (.cells #[.string (bsS (encs L))] 9)).heap[W.heap.size]? = _ := (Below.heap_alloc _ _ _ (by simp; omega)).trans ((Below.heap_alloc _ _ _ (by simp)).trans (heap_new rfl))
  have h1 : (((W.alloc (.cells #[.slice none 0 0] 49)).alloc (.cells #[.bool true] 4)).alloc (.cells #[.string (bsS (encs L))] 9)).heap[W.heap.size + 1]? = _ := (Below.heap_alloc _ _ _ (by simp)).trans (heap_new (by simp))
  have h2 : (((W.alloc (.cells #[.slice none 0 0] 49)).alloc (.cells #[.bool true] 4)).alloc (.cells #[.string (bsS (encs L))] 9)).heap[W.heap.size + 2]? = _ := heap_new (by simp)
  generalize (((W.alloc (.cells #[.slice none 0 0] 49)).alloc (.cells #[.bool true] 4)).alloc (.cells #[.string (bsS (encs L))] 9)) = w0 at *
  have hst : alJ W L 0 w0 := ⟨bB, by omega, h1, _, [], h0, World.ownsRow_nil _ _ _ _, rfl⟩
  refine wpIn_rangeFunc_box (by omega) (gf := 89) (lb := #[.pointer (some ⟨W.heap.size + 1 + 1, 0, none⟩)]) rfl trivial (enters_of Tryz.func89 (by kernel_rfl) rfl)
    L.length (W.heap.size + 2) (by omega) (itemY W.heap.size L) (fun k X vs h => by obtain ⟨x, v, _, rfl, _⟩ := h; rfl) (boxK (W.heap.size + 2)) (alJ W L) (fun k X Y h hb => h.below hb) (fun k l X Y h hl ht => h.turned (by omega) ht) (fun k X v h => h.set v)
    (fun _ _ _ h1 h2 o h => h2 o (h1 o h)) (fun X Y hb o h => (hb.block _ (Array.getElem?_eq_some_iff.1 h).1).trans h) (fun l X Y hl ht o h => (ht.other (by omega)).trans h) hst ?hiter ?hround ?hdone
  case hiter =>
    intro l J X hJI hJb hJs hY hJ0 hbX
    exact items_it 8 (by omega) l W.heap.size (W.heap.size + 2) (Nat.le_refl _) L hL hA J X hJb hJs (fun k Y hJ u hu g hg => by
      obtain ⟨_, _, _, v, xs, hv, hr, _⟩ := hJI k Y hJ
      rw [hv] at hu
      obtain rfl : v = u := by simpa using hu
      exact (row_lt hr g hg).2) hY hJ0 ((hbX.block _ (by omega)).trans h2)
  case hround =>
    intro l k X vs hl hI hk hvs
    obtain ⟨x, v, hx, rfl, hit⟩ := hvs
    obtain ⟨p, c, rfl, hc, _⟩ := hit.form
    gi_wp2
    refine ⟨(Below.refl _ X).alloc (Nat.le_refl _) _, fun W2 ht => ?_⟩
    obtain ⟨fr, hXz, good, v, xs, hv, hr, hcs⟩ := hI
    obtain ⟨va, vc, rfl, hvc1, hvc2⟩ := row_form hr
    have hxl := Lib.hid hr.1
    have hlt := row_lt hr
    have hown := row_own hr
    have n1 : W2.heap[X.heap.size]? = some (.cells #[.bool (isL x), .string (bsS (txt x)), .slice p (subs x).length c] 51 (0, 0)) := ht.cells (heap_new rfl) rfl
    have e2 : ∀ q, cellsAt X q → W2.heap[q]? = X.heap[q]? := fun q hq => by
      have h := Below.heap_alloc X (.cells #[.bool (isL x), .string (bsS (txt x)), .slice p (subs x).length c] 51) q hq.lt
      obtain ⟨cc, tt, ff, hh⟩ := hq
      rw [hh] at h ⊢
      exact ht.cells h rfl
    have b2 : Below W.heap.size X W2 := ((Below.refl _ X).alloc (by omega) _).trans (turned_below ht (by omega))
    have z2 : X.heap.size + 1 ≤ W2.heap.size := (Array.getElem?_eq_some_iff.1 n1).1
    have v2 := (e2 _ ⟨_, _, _, hv⟩).trans hv
    have r2 := row_same hr fun g hg hcg => e2 g hcg
    have g2 := (e2 _ ⟨_, _, _, good⟩).trans good
    have hit2 : itF (fun q => W.heap.size + 3 ≤ q ∧ (Value.slice va k vc).ownBlock ≠ some q) W2 x (.agg #[.bool (isL x), .string (bsS (txt x)), .slice p (subs x).length c]) := hit.to fun q hq hcq => ⟨⟨hq.1, hq.2 _ hv⟩, e2 q hcq⟩
    have cs2 := hcs.to (F' := fun q => W.heap.size + 3 ≤ q ∧ (Value.slice va k vc).ownBlock ≠ some q) (W' := W2) fun q hq hcq => ⟨hq, e2 q hcq⟩
    have hL1 : k + 1 ≤ 1000000 := by omega
    obtain ⟨p0, p1, p2⟩ := cell3 n1
    have hTn : ¬ ((Value.slice va k vc).ownBlock = some X.heap.size ∨ X.heap.size = W.heap.size) := by
      rintro (h | h)
      · have := hlt _ h
        omega
      · omega
    have hne : (Value.slice va k vc).ownBlock ≠ some W.heap.size := fun h => by
      have := hlt _ h
      omega
    have hk3 : xs.length = k * 3 := hxl.out
    have hkk : (k : Int) < (k : Int) + 1 := by omega
    clear hit hcs hr hv good
    gi_wp2
    refine wpIn_flowW (r := (some l)) (fun k => ([0, 0, 0, 2, 2, 0, 2, 2] : List Nat).getD k 1) (fun i j => ([(0, 3), (1, 3), (2, 3), (3, 0), (3, 1), (3, 2), (5, 7), (6, 7), (7, 5), (7, 6)] : List (Nat × Nat)).contains (i, j)) (apR W2 (W.heap.size + 3) W.heap.size (.slice va k vc) k xs [.bool (isL x), .string (bsS (txt x)), .slice p (subs x).length c]) (apT k) (apV k (.slice va k vc) (.agg #[.bool (isL x), .string (bsS (txt x)), .slice p (subs x).length c])) (⟨none, false, false, false, 0, 0⟩) (⟨Fr.drew (Fr.refl _ _), v2, fun _ => r2, fun _ g h => (by cases h), fun h => (by cases h), fun h => (by cases h)⟩) (by kernel_rfl) (by intro i j hu hi hj; have hu : (i, j) ∈ ([(0, 3), (1, 3), (2, 3), (3, 0), (3, 1), (3, 2), (5, 7), (6, 7), (7, 5), (7, 6)] : List (Nat × Nat)) := mem_un hu; simp only [List.mem_cons, Prod.mk.injEq, List.not_mem_nil, or_false] at hu; rcases hu with ⟨rfl, rfl⟩ | ⟨rfl, rfl⟩ | ⟨rfl, rfl⟩ | ⟨rfl, rfl⟩ | ⟨rfl, rfl⟩ | ⟨rfl, rfl⟩ | ⟨rfl, rfl⟩ | ⟨rfl, rfl⟩ | ⟨rfl, rfl⟩ | ⟨rfl, rfl⟩ <;> first | exact absurd hi (by decide) | exact absurd hj (by decide) | (intro s u s1 v s2 h1 h2; obtain ⟨rfl, rfl⟩ := h1; obtain ⟨rfl, rfl⟩ := h2; exact ⟨_, ⟨rfl, rfl⟩, ⟨rfl, rfl⟩⟩)) (by intro i j hu hi hj; have hu : (i, j) ∈ ([(0, 3), (1, 3), (2, 3), (3, 0), (3, 1), (3, 2), (5, 7), (6, 7), (7, 5), (7, 6)] : List (Nat × Nat)) := mem_un hu; simp only [List.mem_cons, Prod.mk.injEq, List.not_mem_nil, or_false] at hu; rcases hu with ⟨rfl, rfl⟩ | ⟨rfl, rfl⟩ | ⟨rfl, rfl⟩ | ⟨rfl, rfl⟩ | ⟨rfl, rfl⟩ | ⟨rfl, rfl⟩ | ⟨rfl, rfl⟩ | ⟨rfl, rfl⟩ | ⟨rfl, rfl⟩ | ⟨rfl, rfl⟩ <;> first | exact absurd hi (by decide) | exact absurd hj (by decide) | (intro s u s1 v s2 h1 h2; obtain ⟨rfl, rfl⟩ := h1; exact ⟨_, _, rfl, rfl⟩)) (by intro i j hu hi hj; have hu : (i, j) ∈ ([(0, 3), (1, 3), (2, 3), (3, 0), (3, 1), (3, 2), (5, 7), (6, 7), (7, 5), (7, 6)] : List (Nat × Nat)) := mem_un hu; simp only [List.mem_cons, Prod.mk.injEq, List.not_mem_nil, or_false] at hu; rcases hu with ⟨rfl, rfl⟩ | ⟨rfl, rfl⟩ | ⟨rfl, rfl⟩ | ⟨rfl, rfl⟩ | ⟨rfl, rfl⟩ | ⟨rfl, rfl⟩ | ⟨rfl, rfl⟩ | ⟨rfl, rfl⟩ | ⟨rfl, rfl⟩ | ⟨rfl, rfl⟩ <;> first | exact absurd hi (by decide) | exact absurd hj (by decide) | (intro s v s1 h1; (first | (obtain ⟨rfl, rfl⟩ := h1; rfl) | (obtain ⟨_, rfl, rfl⟩ := h1; rfl)))) (by kernel_rfl) ?_
    (refine flowW_late (fun s => s.bx = false) rfl rfl rfl (by intro j hu hj s v s1 hT; have hu : (0, j) ∈ ([(0, 3), (1, 3), (2, 3), (3, 0), (3, 1), (3, 2), (5, 7), (6, 7), (7, 5), (7, 6)] : List (Nat × Nat)) := mem_un hu; simp only [List.mem_cons, Prod.mk.injEq, List.not_mem_nil, or_false, Nat.reduceEqDiff, false_and, true_and, false_or] at hu; (try (rcases hu with rfl)) <;> first | exact absurd hj (by decide) | (first | (obtain ⟨rfl, rfl⟩ := hT; exact Iff.rfl) | (obtain ⟨_, rfl, rfl⟩ := hT; exact Iff.rfl))) (fun s0 w' hE hR => ?_) (fun K hK => ?_); (focus (have hq := hR.box; (try rw [hE, if_neg (by decide)] at hq); have y0 := Lib.cell_of_heap hq 0; have e0 := hR.fr.cell p0 hTn (by omega); have e1 := hR.fr.cell p1 hTn (by omega); have e2 := hR.fr.cell p2 hTn (by omega); simp only [List.getElem?_toArray, List.getElem?_cons_zero] at y0; clear hq hR; go_simp; (try go_bits); first | done | exact rfl | (cases hE; rfl))); (try simp only [apV]); go_simp; (try go_bits); refine hK _ ?_; clear hK K)
    iterate 2 ((refine flowW_late (fun _ => True) rfl rfl trivial (fun _ _ _ _ _ _ _ => Iff.rfl) (fun s0 w' hE hR => ?_) (fun K hK => ?_); (focus (have hq := hR.box; (try rw [hE, if_neg (by decide)] at hq); have y0 := Lib.cell_of_heap hq 0; have e0 := hR.fr.cell p0 hTn (by omega); have e1 := hR.fr.cell p1 hTn (by omega); have e2 := hR.fr.cell p2 hTn (by omega); simp only [List.getElem?_toArray, List.getElem?_cons_zero] at y0; clear hq hR; go_simp; (try go_bits); first | done | exact rfl | (cases hE; rfl))); (try simp only [apV]); go_simp; (try go_bits); refine hK _ ?_; clear hK K))
    refine flowW_step (fun s => s = ⟨none, false, false, false, 0, 0⟩) (by decide) rfl rfl (by intro j hu hj s v s1 hT; have hu : (3, j) ∈ ([(0, 3), (1, 3), (2, 3), (3, 0), (3, 1), (3, 2), (5, 7), (6, 7), (7, 5), (7, 6)] : List (Nat × Nat)) := mem_un hu; simp only [List.mem_cons, Prod.mk.injEq, List.not_mem_nil, or_false, Nat.reduceEqDiff, false_and, true_and, false_or] at hu; (try (rcases hu with rfl | rfl | rfl)) <;> first | exact absurd hj (by decide) | (first | (obtain ⟨rfl, rfl⟩ := hT; exact Iff.rfl) | (obtain ⟨_, rfl, rfl⟩ := hT; exact Iff.rfl))) ⟨.slice (some ⟨0, 0, none⟩) 1 1, _, 0, rfl, rfl⟩ (fun s0 w' hE hR => ?_) (fun K hK v s2 hs2 => ?_)
    focus
      subst hE
      have hbox := hR.box
      have hfr := hR.fr
      have hro := hR.row rfl
      have hltb := (Array.getElem?_eq_some_iff.1 hbox).1
      clear hR
      go_simp
      exact ⟨⟨some w'.heap.size, false, false, false, 0, 0⟩, ⟨_, rfl, rfl⟩, hfr.alloc _, (Below.heap_alloc _ _ _ hltb).trans hbox, fun _ => hro.alloc _, fun _ g hg => by
        obtain rfl : w'.heap.size = g := by simpa using hg
        exact ⟨hfr.size, heap_new rfl⟩, fun h => (by cases h), fun h => (by cases h)⟩
    obtain ⟨gz, rfl, rfl⟩ := hs2
    (go_simp; refine hK _ _ ?_; clear hK K)
    refine flowW_step (fun s => s = ⟨some gz, false, false, false, 0, 0⟩) (by decide) rfl rfl (by intro j hu; exact absurd (mem_un (l := ([(0, 3), (1, 3), (2, 3), (3, 0), (3, 1), (3, 2), (5, 7), (6, 7), (7, 5), (7, 6)] : List (Nat × Nat))) hu) (by simp)) ⟨_, _, 0, 0, rfl, rfl⟩ (fun s0 w' hE hR => ?_) (fun K hK v s2 hs2 => ?_)
    focus
      subst hE
      have hbox := hR.box
      have hltb := (Array.getElem?_eq_some_iff.1 hbox).1
      obtain ⟨hg1, hg2⟩ := hR.one rfl gz rfl
      have hro := hR.row rfl
      have hfr := hR.fr
      clear hR
      obtain ⟨v', w2, hrun, hown', hgrow, _, hloc⟩ := run_append_own_at (P := Tryz.prog) w' (W.heap.size + 3) 49 49 51 i0 _ 3 48 Tryz.underlying49 hi hz0 hz1 hz2 rfl (by decide) (.slice va k vc) k xs hro ⟨gz, 0, none⟩ 1 1 [.bool false, .string ⟨#[]⟩, .slice none 0 0] rfl
        (fun j u hj => by
          have hg3 : w'.heap[gz]? = _ := hg2
          rw [addr_add]
          have hj3 : j = 0 ∨ j = 1 ∨ j = 2 := by
            have := (List.getElem?_eq_some_iff.1 hj).1
            simp at this
            omega
          rcases hj3 with rfl | rfl | rfl <;> simp at hj <;> subst hj <;> simp [World.cell?, hg3]) (by simp [Value.oneCell']) (by unfold maxLen; omega) (by omega) (by have := hfr.size; omega)
      rw [append_exec (P := Tryz.prog) rfl rfl rfl hrun]
      obtain ⟨g', cap', rfl⟩ := ownsRow_succ hown'
      refine ⟨_, ⟨g', cap', rfl, rfl⟩, hfr.trans ⟨hgrow.os, hgrow.tape, hgrow.output, hgrow.size, fun k hk hT => hgrow.block k hk fun e => hT (.inl e.symm)⟩, (hgrow.block _ hltb (fun e => hne e.symm)).trans hbox, fun h => (by cases h), fun h => (by cases h), fun _ => hown', fun _ => ?_⟩
      rcases hloc with h | h
      · exact .inl h.symm
      · obtain rfl : g' = w'.heap.size := by simpa [Value.ownBlock] using h
        exact .inr hfr.size
    obtain ⟨ga, capa, rfl, rfl⟩ := hs2
    (go_simp; refine hK _ _ ?_; clear hK K)
    (refine flowW_late (fun s => s.g = ga) rfl rfl rfl (by intro j hu hj s v s1 hT; have hu : (5, j) ∈ ([(0, 3), (1, 3), (2, 3), (3, 0), (3, 1), (3, 2), (5, 7), (6, 7), (7, 5), (7, 6)] : List (Nat × Nat)) := mem_un hu; simp only [List.mem_cons, Prod.mk.injEq, List.not_mem_nil, or_false, Nat.reduceEqDiff, false_and, true_and, false_or] at hu; (try (rcases hu with rfl)) <;> first | exact absurd hj (by decide) | (first | (obtain ⟨rfl, rfl⟩ := hT; exact Iff.rfl) | (obtain ⟨_, rfl, rfl⟩ := hT; exact Iff.rfl))) (fun s0 w' hE hR => ?_) (fun K hK => ?_); (focus (have hq := hR.box; (try rw [hE, if_neg (by decide)] at hq); have y0 := Lib.cell_of_heap hq 0; have e0 := hR.fr.cell p0 hTn (by omega); have e1 := hR.fr.cell p1 hTn (by omega); have e2 := hR.fr.cell p2 hTn (by omega); simp only [List.getElem?_toArray, List.getElem?_cons_zero] at y0; clear hq hR; go_simp; (try go_bits); first | done | exact rfl | (cases hE; rfl))); (try simp only [apV]); go_simp; (try go_bits); refine hK _ ?_; clear hK K)
    refine flowW_step (fun s => s.ap = true ∧ s.el = false ∧ s.g = ga ∧ s.cap = capa) (by decide) rfl ⟨rfl, rfl, rfl, rfl⟩ (by intro j hu hj s v s1 hT; have hu : (6, j) ∈ ([(0, 3), (1, 3), (2, 3), (3, 0), (3, 1), (3, 2), (5, 7), (6, 7), (7, 5), (7, 6)] : List (Nat × Nat)) := mem_un hu; simp only [List.mem_cons, Prod.mk.injEq, List.not_mem_nil, or_false, Nat.reduceEqDiff, false_and, true_and, false_or] at hu; (try (rcases hu with rfl)) <;> first | exact absurd hj (by decide) | (first | (obtain ⟨rfl, rfl⟩ := hT; exact Iff.rfl) | (obtain ⟨_, rfl, rfl⟩ := hT; exact Iff.rfl))) ⟨undef, _, rfl, rfl⟩ (fun s0 w' hE hR => ?_) (fun K hK v s2 hs2 => ?_)
    focus
      obtain ⟨hap, hel, rfl, rfl⟩ := hE
      have hbox := hR.box
      have hltb := (Array.getElem?_eq_some_iff.1 hbox).1
      have hfr := hR.fr
      have hro := hR.new hap
      rw [hel, if_neg (by decide)] at hro
      have hlo := hR.loc hap
      clear hR
      obtain ⟨⟨r0, r1, r2⟩, rf⟩ := row_get3 hro hk3
      have f0 := rf (k * 3)
      have f1 := rf (k * 3 + 1)
      have f2 := rf (k * 3 + 2)
      clear rf
      have hput := row_put3 hro hk3 (.bool (isL x)) (.string (bsS (txt x))) (.slice p (subs x).length c)
      have hgl := row_lt hro s0.g rfl
      have hga : ((Value.slice va k vc).ownBlock = some s0.g ∨ s0.g = W.heap.size) ∨ W2.heap.size ≤ s0.g := by
        rcases hlo with h | h
        · exact .inl (.inl h)
        · exact .inr h
      clear hro
      go_simp
      exact ⟨{ s0 with el := true }, ⟨rfl, rfl⟩, ((hfr.setCell hga _).setCell hga _).setCell hga _, (heap_set_ne (by omega)).trans ((heap_set_ne (by omega)).trans ((heap_set_ne (by omega)).trans hbox)), fun h => (by rw [show _ = true from hap] at h; cases h), fun h => (by rw [show _ = true from hap] at h; cases h), fun _ => hput, fun _ => hlo⟩
    obtain ⟨rfl, rfl⟩ := hs2
    (go_simp; refine hK _ _ ?_; clear hK K)
    refine flowW_step (fun s => s.ap = true ∧ s.bx = false ∧ s.g = ga ∧ s.cap = capa) (by decide) rfl ⟨rfl, rfl, rfl, rfl⟩ (by intro j hu hj s v s1 hT; have hu : (7, j) ∈ ([(0, 3), (1, 3), (2, 3), (3, 0), (3, 1), (3, 2), (5, 7), (6, 7), (7, 5), (7, 6)] : List (Nat × Nat)) := mem_un hu; simp only [List.mem_cons, Prod.mk.injEq, List.not_mem_nil, or_false, Nat.reduceEqDiff, false_and, true_and, false_or] at hu; (try (rcases hu with rfl | rfl)) <;> first | exact absurd hj (by decide) | (first | (obtain ⟨rfl, rfl⟩ := hT; exact Iff.rfl) | (obtain ⟨_, rfl, rfl⟩ := hT; exact Iff.rfl))) ⟨undef, _, rfl, rfl⟩ (fun s0 w' hE hR => ?_) (fun K hK v s2 hs2 => ?_)
    focus
      obtain ⟨hap, hbx, rfl, rfl⟩ := hE
      have hbox := hR.box
      rw [hbx, if_neg (by decide)] at hbox
      have y0 := Lib.cell_of_heap hbox 0
      have yf := Lib.frozen_of_heap hbox 0
      simp only [List.getElem?_toArray, List.getElem?_cons_zero] at y0
      have hfr := hR.fr
      have hro := hR.new hap
      have hlo := hR.loc hap
      have hgl := row_lt hro
      clear hR
      go_simp
      refine ⟨{ s0 with bx := true }, ⟨rfl, rfl⟩, hfr.setCell (.inl (.inr rfl)) _, ?_, fun h => (by rw [show _ = true from hap] at h; cases h), fun h => (by rw [show _ = true from hap] at h; cases h), fun _ => row_same hro fun g hg _ => heap_set_ne (by have := hgl g hg; omega), fun _ => hlo⟩
      rw [setCell_at hbox 0]
      rfl
    obtain ⟨rfl, rfl⟩ := hs2
    (go_simp; refine hK _ _ ?_; clear hK K)
    refine flowW_nil ?_
    intro W3 hR3
    have f3 := hR3.fr
    have r3 := hR3.new rfl
    have l3 := hR3.loc rfl
    have x3 := hR3.box
    have s3 := f3.size
    clear hR3
    simp only [if_pos] at r3 x3
    dsimp only at l3
    have hT : ∀ q, cellsAt W2 q → (W.heap.size + 3 ≤ q ∧ (Value.slice va k vc).ownBlock ≠ some q) → W3.heap[q]? = W2.heap[q]? := fun q hq hf => f3.block q hq.lt (by
      rintro (h | h)
      · exact hf.2 h
      · omega)
    have hT2 : ∀ q, W.heap.size < q → q < W.heap.size + 3 → W3.heap[q]? = W2.heap[q]? := fun q h1 h2 => f3.block q (by omega) (by
      rintro (h | h)
      · have := hlt q h
        omega
      · omega)
    refine ⟨rfl, ⟨s3, fun q o hq ho hc => (f3.block q (Array.getElem?_eq_some_iff.1 ho).1 ?_).trans ho⟩, fun o ho => (hT2 _ (by omega) (by omega)).trans ho, (fr.trans b2).trans (f3.toBelow (n := W.heap.size) (by omega) fun q hq => ?_), by omega, (hT2 _ (by omega) (by omega)).trans g2, _, _, x3, r3, ?_⟩
    · rintro (h | h)
      · obtain ⟨cs, hcs⟩ := hown q h
        rw [e2 q ⟨_, _, _, hcs⟩, hcs] at ho
        obtain rfl := Option.some.inj ho
        cases hc
      · omega
    · rcases hq with h | h
      · have := hlt q h
        omega
      · omega
    · have := (cs2.snoc hit2).to (F' := fun q => W.heap.size + 3 ≤ q ∧ (Value.slice (some ⟨ga, 0, none⟩) (k + 1) capa).ownBlock ≠ some q) (W' := W3) fun q hq hcq => ⟨⟨hq.1, fun h => by
        obtain rfl : ga = q := by simpa [Value.ownBlock] using h
        rcases l3 with h | h
        · exact hq.2 h
        · have := hcq.lt
          omega⟩, hT q hcq hq⟩
      rw [List.take_succ_eq_append_getElem hk, (List.getElem?_eq_some_iff.1 hx).2]
      exact this
  case hdone =>
    intro D X hD hI hd
    obtain ⟨fr, hXz, good, v, xs, hv, hr, hcs⟩ := hI
    rw [List.take_length] at hcs
    obtain ⟨a, c, rfl, hac, hits⟩ := row_items (F' := fun q => W.heap.size ≤ q) hr hcs (fun q hq => by omega) (fun q hq => by omega)
    have c0 := Lib.cell_of_heap hv 0
    have c1 := Lib.cell_of_heap good 0
    simp only [List.getElem?_toArray, List.getElem?_cons_zero] at c0 c1
    gi_wp2
    first | refine wpIn_flow (r := none) (fun k => ([1, 1, 1, 1] : List Nat).getD k 1) Dr _ (Dr.next _ _) (by kernel_rfl) (by kernel_rfl) ?_ | refine wpIn_flow (r := none) (fun k => ([1, 1, 1, 1] : List Nat).getD k 1) Dr _ (Dr.one _) (by kernel_rfl) (by kernel_rfl) ?_
    iterate 4 ((refine flow_quiet rfl rfl (fun K hK => ?_); apply Exists.intro; apply And.intro; (focus (rintro w' ⟨nn, rfl⟩; go_simp; (try go_bits); exact ⟨rfl, Dr.of _ _⟩)); go_simp; (try go_bits); refine hK _ ?_; clear hK K))
    refine flow_nil ?_
    rintro w' ⟨nq, rfl⟩
    gi_wp2
    rw [Exit.noGoto_ret]
    have hd2 : (X.drewN nq).heap[D]? = some (.deferred (some [])) := hd
    refine ⟨by simp, .inl ⟨_, _, rfl, run_takeDeferred hd2, _, (by simp only [results, Tryz.results48]; go_simp; try rfl), a, c, rfl, hac, ?_, ?_⟩⟩
    · have hits2 : itsF (fun q => W.heap.size ≤ q) (X.drewN nq) a 0 L := itsF.to (F := fun q => W.heap.size ≤ q) (F' := fun q => W.heap.size ≤ q) (W := X) (W' := X.drewN nq) (fun q hq _ => ⟨hq, rfl⟩) hits
      exact hits2.to fun q hq hcq => ⟨hq, (show recTurned D (X.drewN nq) _ from ⟨_, _, hd2, rfl, rfl⟩).cellsAt hcq⟩
    · exact (below_drewN fr nq).trans (turned_below (show recTurned D (X.drewN nq) _ from ⟨_, _, hd2, rfl, rfl⟩) (by omega))
theorem all_any : ∀ (n : Nat) (L : List It), deps L ≤ n → (encs L).length ≤ 1000000 → allP L := by
  intro n
  induction n with
  | zero =>
    intro L hd hl
    refine all_step L hl fun m hm => ?_
    have := dep_sub hm
    rw [dep] at this
    omega
  | succ n ih =>
    intro L hd hl
    refine all_step L hl fun m hm => ih m ?_ ?_
    · have := dep_sub hm
      rw [dep] at this
      omega
    · have := enc_le_encs hm
      have := encs_lt m
      omega
end Go.Proofs.YtijidnhaijdfaaaGreatDoor
