/-
  A node refers to another one: refer; an item of a path's form. Conditions: the nodes are in the memory, the tables of keccak too.
-/
import Derived.Test.YtijidnhaijdfaaaGreatDoorPR20
import Derived.Test.YtijidnhaijdfaaaGreatDoorPR22
import Derived.Test.YtijidnhaijdfaaaGreatDoorPR12
import Derived.Test.YtijidnhaijdfaaaGreatDoorPR4
namespace Go.Proofs.YtijidnhaijdfaaaGreatDoor
open Go.RowKit
attribute [local go_sem] leftBy leaves
set_option linter.unusedSimpArgs false
set_option linter.unusedVariables false

set_option maxHeartbeats 8000000 in
theorem formI_any (leaf : Bool) (p : Bs) (hn : nib p) (hs : p.length ≤ 1000000) (W : World) : Calls Tryz.prog 80 #[.string (bsS p), .bool leaf] W fun e w' => e = .returned (.agg #[.bool false, .string (bsS (form leaf p)), .slice none 0 0]) ∧ Below W.heap.size W w' := by
  have cF := fun w => Form_any leaf p hn hs w
  have hh := World.alloc_heap_new W (.cells #[.bool false, .string ⟨#[]⟩, .slice none 0 0] 51)
  go_enter Tryz.func80, Tryz.ntmps80
  go_wp2_with (first | (go_at_call 81; (with_reducible refine (cF _).mono ?_); rintro e w1 ⟨rfl, hb1⟩; rw [World.size_alloc] at hb1) | (go_at_call 13; refine (Text_any _ _).mono ?_; rintro e w2 ⟨rfl, hb2⟩; have h2 := (hb2.block W.heap.size (by have := hb1.size; simp at this; omega)).trans ((hb1.block W.heap.size (by omega)).trans hh); obtain ⟨i0, i1, i2⟩ := cell3 h2; have g0 := Lib.frozen_of_heap h2 0; have g1 := Lib.frozen_of_heap h2 1; have g2 := Lib.frozen_of_heap h2 2))
  have z1 := hb1.size
  rw [World.size_alloc] at z1
  have b2 : Below W.heap.size W w2 := (((Below.refl _ W).alloc (Nat.le_refl _) _).trans (hb1.mono (by omega))).trans (hb2.mono (by omega))
  refine bodyPost_ret (by simp only [results, Tryz.results80]; go_simp; try rfl) rfl ⟨rfl, ((b2.setCell (Nat.le_refl _) _).setCell (Nat.le_refl _) _).setCell (Nat.le_refl _) _⟩
theorem Sum_one (s : Bs) (g : Nat) (w : World) (hc : w.cell? ⟨g, 0, none⟩ = some (.string (bsS s))) (hs : s.length ≤ 200000) (hw : 3 ≤ w.heap.size) (hT : KT w) :
    Calls Tryz.prog 7 #[.slice (some ⟨g, 0, none⟩) 1 1] w fun e w' => e = .returned (.string (bsS (dg s))) ∧ Below w.heap.size w w' := by
  have h := Sum_strs (.slice (some ⟨g, 0, none⟩) 1 1) [bsS s] w (.inr ⟨g, 0, 1, rfl, Nat.le_refl _, Nat.zero_lt_one, lt_of_cell hc, fun j x hj => by
    cases j with
    | zero =>
      obtain rfl : bsS s = x := by simpa using hj
      exact hc
    | succ j => simp at hj⟩) (by simp) (by rw [catB_one, bsS_size]; exact hs) hw hT
  rw [catB_one] at h
  rw [bsS_dg]
  exact h
theorem infoS : (Tryz.prog.info? 9).map (fun i => (i.zero, i.size, i.bytes)) = some (some (.string ⟨#[]⟩), 1, 16) := by kernel_rfl
theorem infoP : (Tryz.prog.info? 106).map (fun i => (i.zero, i.size, i.bytes)) = some (some (.pointer none), 1, 8) := by kernel_rfl
structure RfS where
  z1 : Option Nat
  a1 : Bool
  s1 : Bool
  g1 : Nat
  c1 : Nat
  z2 : Option Nat
  a2 : Bool
  s2 : Bool
  g2 : Nat
  c2 : Nat
/-- A node's block. -/
def nodeO (b t s by_ le ne : Value) : Obj := .cells #[b, t, s, by_, le, ne] 110 (0, 0)
structure rfR (W1 : World) (B k : Nat) (b t s by_ le ne : Value) (m : Nat) (ls ys : List Value) (ld y : Value) (σ : RfS) (w' : World) : Prop where
  fr : Fr (fun q => (le.ownBlock = some q ∨ ne.ownBlock = some q) ∨ q = k) W1 w'
  node : w'.heap[k]? = some (nodeO b t s by_ (if σ.s1 then .slice (some ⟨σ.g1, 0, none⟩) (m + 1) σ.c1 else le) (if σ.s2 then .slice (some ⟨σ.g2, 0, none⟩) (m + 1) σ.c2 else ne))
  rowL : σ.a1 = false → w'.ownsRow B 9 1 le m ls
  oneL : σ.a1 = false → ∀ g, σ.z1 = some g → W1.heap.size ≤ g ∧ w'.heap[g]? = some (.cells #[ld] 9 (0, 0))
  newL : σ.a1 = true → w'.ownsRow B 9 1 (.slice (some ⟨σ.g1, 0, none⟩) (m + 1) σ.c1) (m + 1) (ls ++ [ld])
  locL : σ.a1 = true → le.ownBlock = some σ.g1 ∨ W1.heap.size ≤ σ.g1
  rowN : σ.a2 = false → w'.ownsRow B 106 1 ne m ys
  oneN : σ.a2 = false → ∀ g, σ.z2 = some g → W1.heap.size ≤ g ∧ w'.heap[g]? = some (.cells #[y] 106 (0, 0))
  newN : σ.a2 = true → w'.ownsRow B 106 1 (.slice (some ⟨σ.g2, 0, none⟩) (m + 1) σ.c2) (m + 1) (ys ++ [y])
  locN : σ.a2 = true → ne.ownBlock = some σ.g2 ∨ W1.heap.size ≤ σ.g2
def rfT (m : Nat) (k : Nat) (σ : RfS) (v : Value) (σ2 : RfS) : Prop := match k with
  | 7 => ∃ g, v = .slice (some ⟨g, 0, none⟩) 1 1 ∧ σ2 = { σ with z1 := some g }
  | 8 => ∃ g cap, v = .slice (some ⟨g, 0, none⟩) (m + 1) cap ∧ σ2 = { σ with a1 := true, g1 := g, c1 := cap }
  | 14 => ∃ g, v = .slice (some ⟨g, 0, none⟩) 1 1 ∧ σ2 = { σ with z2 := some g }
  | 15 => ∃ g cap, v = .slice (some ⟨g, 0, none⟩) (m + 1) cap ∧ σ2 = { σ with a2 := true, g2 := g, c2 := cap }
  | 18 => v = undef ∧ σ2 = { σ with s1 := true }
  | 21 => v = undef ∧ σ2 = { σ with s2 := true }
  | _ => False
def rfV (k : Nat) (le ne y : Value) (p : Bs) (i : Nat) (_ : RfS) : Value := match i with
  | 4 => .pointer (some ⟨k, 4, none⟩)
  | 5 => le
  | 6 => .string (bsS p)
  | 11 => .pointer (some ⟨k, 5, none⟩)
  | 12 => ne
  | 13 => y
  | _ => .pointer (some ⟨k, 0, none⟩)
theorem nodeO_get {W : World} {k : Nat} {b t s by_ le ne : Value} (h : W.heap[k]? = some (nodeO b t s by_ le ne)) : (W.cell? ⟨k, 4, none⟩ = some le ∧ W.cell? ⟨k, 5, none⟩ = some ne) ∧ ∀ j, W.frozen? ⟨k, j, none⟩ = false := by
  refine ⟨⟨?_, ?_⟩, fun j => Lib.frozen_of_heap h j⟩ <;> rw [Lib.cell_of_heap h] <;> rfl
theorem nodeO_set4 {W : World} {k : Nat} {b t s by_ le ne : Value} (h : W.heap[k]? = some (nodeO b t s by_ le ne)) (v : Value) : (W.setCell ⟨k, 4, none⟩ v).heap[k]? = some (nodeO b t s by_ v ne) := by
  rw [setCell_at h 4]
  rfl
theorem nodeO_set5 {W : World} {k : Nat} {b t s by_ le ne : Value} (h : W.heap[k]? = some (nodeO b t s by_ le ne)) (v : Value) : (W.setCell ⟨k, 5, none⟩ v).heap[k]? = some (nodeO b t s by_ le v) := by
  rw [setCell_at h 5]
  rfl
theorem no_tf {b : Bool} (h1 : b = true) (h2 : b = false) : False := by rw [h1] at h2; cases h2
theorem fr_set3 {W0 W' : World} {r : Nat} (h : Fr (fun g => g = r) W0 W') (a b c : Value) : Fr (fun g => g = r) W0 (((W'.setCell ⟨r, 0, none⟩ a).setCell ⟨r, 1, none⟩ b).setCell ⟨r, 2, none⟩ c) :=
  Fr.setCell (T := fun g => g = r) (Fr.setCell (T := fun g => g = r) (Fr.setCell (T := fun g => g = r) h (.inl rfl) a) (.inl rfl) b) (.inl rfl) c
/-- What refer leaves. -/
def rfPost (F : Nat → Prop) (W : World) (k B : Nat) (b t s by_ le ne : Value) (m : Nat) (ls ys : List Value) (p : Bs) (q : Nat) (x : It) (e : Ending) (w' : World) : Prop :=
  ∃ v le' ne', e = .returned v ∧ itF F w' (refI x) v ∧ w'.heap[k]? = some (nodeO b t s by_ le' ne') ∧ w'.ownsRow B 9 1 le' (m + 1) (ls ++ [.string (bsS p)]) ∧ w'.ownsRow B 106 1 ne' (m + 1) (ys ++ [.pointer (some ⟨q, 0, none⟩)]) ∧
    (∀ g, le'.ownBlock = some g → le.ownBlock = some g ∨ W.heap.size ≤ g) ∧ (∀ g, ne'.ownBlock = some g → ne.ownBlock = some g ∨ W.heap.size ≤ g) ∧ (∀ g, le'.ownBlock = some g → ne'.ownBlock ≠ some g) ∧ Fr (fun g => (le.ownBlock = some g ∨ ne.ownBlock = some g) ∨ g = k) W w'
set_option maxRecDepth 100000 in
set_option maxHeartbeats 16000000 in
theorem refer_any (F : Nat → Prop) (W : World) (k B : Nat) (b t s by_ le ne : Value) (m : Nat) (ls ys : List Value) (p : Bs) (q : Nat) (x : It) (lsy : List Bs) (ney : Value) (hk3 : 3 ≤ k) (hkB : k < B) (hB : B ≤ W.heap.size) (hm : m ≤ 1000000) (hnode : W.heap[k]? = some (nodeO b t s by_ le ne)) (hL : W.ownsRow B 9 1 le m ls) (hN : W.ownsRow B 106 1 ne m ys)
    (hLN : ∀ g, le.ownBlock = some g → ne.ownBlock ≠ some g) (hy : nodeF F W x lsy (.pointer (some ⟨q, 0, none⟩)) ney) (hF : ∀ g, F g → ¬ ((le.ownBlock = some g ∨ ne.ownBlock = some g) ∨ g = k)) (hlen : (enc x).length ≤ 100000) (hT : KT W) :
    Calls Tryz.prog 83 #[.pointer (some ⟨k, 0, none⟩), .string (bsS p), .pointer (some ⟨q, 0, none⟩)] W (rfPost F W k B b t s by_ le ne m ls ys p q x) := by
  obtain ⟨i0, hi, hz0, hz1, hz2⟩ := info_parts infoS
  obtain ⟨j0, hj, hy0, hy1, hy2⟩ := info_parts infoP
  have hlt := (Array.getElem?_eq_some_iff.1 hnode).1
  have n1 : (W.alloc (.cells #[.bool false, .string ⟨#[]⟩, .slice none 0 0] 51)).heap[k]? = _ := (Below.heap_alloc _ _ _ hlt).trans hnode
  have hL1 := hL.alloc (.cells #[.bool false, .string ⟨#[]⟩, .slice none 0 0] 51)
  have hN1 := hN.alloc (.cells #[.bool false, .string ⟨#[]⟩, .slice none 0 0] 51)
  obtain ⟨la, lc, rfl, _, _⟩ := row_form hL
  obtain ⟨na, nc, rfl, _, _⟩ := row_form hN
  have oL := row_lt hL
  have oN := row_lt hN
  have hr1 := World.alloc_heap_new W (.cells #[.bool false, .string ⟨#[]⟩, .slice none 0 0] 51)
  have b1 : Below W.heap.size W (W.alloc (.cells #[.bool false, .string ⟨#[]⟩, .slice none 0 0] 51)) := (Below.refl _ W).alloc (Nat.le_refl _) _
  go_enter Tryz.func83, Tryz.ntmps83
  go_wp2
  have z1 : (W.alloc (.cells #[.bool false, .string ⟨#[]⟩, .slice none 0 0] 51)).heap.size = W.heap.size + 1 := World.size_alloc _ _
  generalize W.alloc (.cells #[.bool false, .string ⟨#[]⟩, .slice none 0 0] 51) = W1 at *
  refine wp_flowW (fun k => ([0, 0, 0, 0, 0, 0, 0, 2, 2, 0, 0, 0, 0, 0, 2, 2, 1, 1, 2, 1, 1, 2] : List Nat).getD k 1) (fun i j => ([(0, 7), (0, 8), (0, 14), (0, 15), (1, 7), (1, 8), (1, 14), (1, 15), (1, 18), (2, 7), (2, 14), (3, 7), (3, 14), (4, 7), (4, 14), (5, 7), (5, 14), (6, 14), (7, 0), (7, 1), (7, 2), (7, 3), (7, 4), (7, 5), (7, 9), (7, 10), (7, 11), (7, 12), (7, 13), (7, 14), (8, 0), (8, 1), (8, 9), (8, 10), (8, 11), (8, 12), (8, 13), (8, 14), (9, 7), (9, 8), (9, 14), (10, 7), (10, 8), (10, 14), (11, 7), (11, 8), (11, 14), (12, 7), (12, 8), (12, 14), (13, 7), (13, 8), (14, 0), (14, 1), (14, 2), (14, 3), (14, 4), (14, 5), (14, 6), (14, 7), (14, 8), (14, 9), (14, 10), (14, 11), (14, 12), (15, 0), (15, 1), (18, 1)] : List (Nat × Nat)).contains (i, j)) (rfR W1 B k b t s by_ (.slice la m lc) (.slice na m nc) m ls ys (.string (bsS p)) (.pointer (some ⟨q, 0, none⟩))) (rfT m) (rfV k (.slice la m lc) (.slice na m nc) (.pointer (some ⟨q, 0, none⟩)) p) (⟨none, false, false, 0, 0, none, false, false, 0, 0⟩) (⟨Fr.drew (Fr.refl _ _), n1, fun _ => hL1, fun _ g h => (by cases h), fun h => (by cases h), fun h => (by cases h), fun _ => hN1, fun _ g h => (by cases h), fun h => (by cases h), fun h => (by cases h)⟩) (by kernel_rfl) (by intro i j hu hi hj; have hu : (i, j) ∈ ([(0, 7), (0, 8), (0, 14), (0, 15), (1, 7), (1, 8), (1, 14), (1, 15), (1, 18), (2, 7), (2, 14), (3, 7), (3, 14), (4, 7), (4, 14), (5, 7), (5, 14), (6, 14), (7, 0), (7, 1), (7, 2), (7, 3), (7, 4), (7, 5), (7, 9), (7, 10), (7, 11), (7, 12), (7, 13), (7, 14), (8, 0), (8, 1), (8, 9), (8, 10), (8, 11), (8, 12), (8, 13), (8, 14), (9, 7), (9, 8), (9, 14), (10, 7), (10, 8), (10, 14), (11, 7), (11, 8), (11, 14), (12, 7), (12, 8), (12, 14), (13, 7), (13, 8), (14, 0), (14, 1), (14, 2), (14, 3), (14, 4), (14, 5), (14, 6), (14, 7), (14, 8), (14, 9), (14, 10), (14, 11), (14, 12), (15, 0), (15, 1), (18, 1)] : List (Nat × Nat)) := mem_un hu; simp only [List.mem_cons, Prod.mk.injEq, List.not_mem_nil, or_false] at hu; rcases hu with ⟨rfl, rfl⟩ | ⟨rfl, rfl⟩ | ⟨rfl, rfl⟩ | ⟨rfl, rfl⟩ | ⟨rfl, rfl⟩ | ⟨rfl, rfl⟩ | ⟨rfl, rfl⟩ | ⟨rfl, rfl⟩ | ⟨rfl, rfl⟩ | ⟨rfl, rfl⟩ | ⟨rfl, rfl⟩ | ⟨rfl, rfl⟩ | ⟨rfl, rfl⟩ | ⟨rfl, rfl⟩ | ⟨rfl, rfl⟩ | ⟨rfl, rfl⟩ | ⟨rfl, rfl⟩ | ⟨rfl, rfl⟩ | ⟨rfl, rfl⟩ | ⟨rfl, rfl⟩ | ⟨rfl, rfl⟩ | ⟨rfl, rfl⟩ | ⟨rfl, rfl⟩ | ⟨rfl, rfl⟩ | ⟨rfl, rfl⟩ | ⟨rfl, rfl⟩ | ⟨rfl, rfl⟩ | ⟨rfl, rfl⟩ | ⟨rfl, rfl⟩ | ⟨rfl, rfl⟩ | ⟨rfl, rfl⟩ | ⟨rfl, rfl⟩ | ⟨rfl, rfl⟩ | ⟨rfl, rfl⟩ | ⟨rfl, rfl⟩ | ⟨rfl, rfl⟩ | ⟨rfl, rfl⟩ | ⟨rfl, rfl⟩ | ⟨rfl, rfl⟩ | ⟨rfl, rfl⟩ | ⟨rfl, rfl⟩ | ⟨rfl, rfl⟩ | ⟨rfl, rfl⟩ | ⟨rfl, rfl⟩ | ⟨rfl, rfl⟩ | ⟨rfl, rfl⟩ | ⟨rfl, rfl⟩ | ⟨rfl, rfl⟩ | ⟨rfl, rfl⟩ | ⟨rfl, rfl⟩ | ⟨rfl, rfl⟩ | ⟨rfl, rfl⟩ | ⟨rfl, rfl⟩ | ⟨rfl, rfl⟩ | ⟨rfl, rfl⟩ | ⟨rfl, rfl⟩ | ⟨rfl, rfl⟩ | ⟨rfl, rfl⟩ | ⟨rfl, rfl⟩ | ⟨rfl, rfl⟩ | ⟨rfl, rfl⟩ | ⟨rfl, rfl⟩ | ⟨rfl, rfl⟩ | ⟨rfl, rfl⟩ | ⟨rfl, rfl⟩ | ⟨rfl, rfl⟩ | ⟨rfl, rfl⟩ | ⟨rfl, rfl⟩ <;> first | exact absurd hi (by decide) | exact absurd hj (by decide) | (intro s u s1 v s2 h1 h2; (first | (obtain ⟨_, rfl, rfl⟩ := h1; (first | (obtain ⟨_, rfl, rfl⟩ := h2; exact ⟨_, ⟨_, rfl, rfl⟩, ⟨_, rfl, rfl⟩⟩) | (obtain ⟨_, _, rfl, rfl⟩ := h2; exact ⟨_, ⟨_, _, rfl, rfl⟩, ⟨_, rfl, rfl⟩⟩))) | (obtain ⟨_, _, rfl, rfl⟩ := h1; (first | (obtain ⟨_, rfl, rfl⟩ := h2; exact ⟨_, ⟨_, rfl, rfl⟩, ⟨_, _, rfl, rfl⟩⟩) | (obtain ⟨_, _, rfl, rfl⟩ := h2; exact ⟨_, ⟨_, _, rfl, rfl⟩, ⟨_, _, rfl, rfl⟩⟩)))))) (by intro i j hu hi hj; have hu : (i, j) ∈ ([(0, 7), (0, 8), (0, 14), (0, 15), (1, 7), (1, 8), (1, 14), (1, 15), (1, 18), (2, 7), (2, 14), (3, 7), (3, 14), (4, 7), (4, 14), (5, 7), (5, 14), (6, 14), (7, 0), (7, 1), (7, 2), (7, 3), (7, 4), (7, 5), (7, 9), (7, 10), (7, 11), (7, 12), (7, 13), (7, 14), (8, 0), (8, 1), (8, 9), (8, 10), (8, 11), (8, 12), (8, 13), (8, 14), (9, 7), (9, 8), (9, 14), (10, 7), (10, 8), (10, 14), (11, 7), (11, 8), (11, 14), (12, 7), (12, 8), (12, 14), (13, 7), (13, 8), (14, 0), (14, 1), (14, 2), (14, 3), (14, 4), (14, 5), (14, 6), (14, 7), (14, 8), (14, 9), (14, 10), (14, 11), (14, 12), (15, 0), (15, 1), (18, 1)] : List (Nat × Nat)) := mem_un hu; simp only [List.mem_cons, Prod.mk.injEq, List.not_mem_nil, or_false] at hu; rcases hu with ⟨rfl, rfl⟩ | ⟨rfl, rfl⟩ | ⟨rfl, rfl⟩ | ⟨rfl, rfl⟩ | ⟨rfl, rfl⟩ | ⟨rfl, rfl⟩ | ⟨rfl, rfl⟩ | ⟨rfl, rfl⟩ | ⟨rfl, rfl⟩ | ⟨rfl, rfl⟩ | ⟨rfl, rfl⟩ | ⟨rfl, rfl⟩ | ⟨rfl, rfl⟩ | ⟨rfl, rfl⟩ | ⟨rfl, rfl⟩ | ⟨rfl, rfl⟩ | ⟨rfl, rfl⟩ | ⟨rfl, rfl⟩ | ⟨rfl, rfl⟩ | ⟨rfl, rfl⟩ | ⟨rfl, rfl⟩ | ⟨rfl, rfl⟩ | ⟨rfl, rfl⟩ | ⟨rfl, rfl⟩ | ⟨rfl, rfl⟩ | ⟨rfl, rfl⟩ | ⟨rfl, rfl⟩ | ⟨rfl, rfl⟩ | ⟨rfl, rfl⟩ | ⟨rfl, rfl⟩ | ⟨rfl, rfl⟩ | ⟨rfl, rfl⟩ | ⟨rfl, rfl⟩ | ⟨rfl, rfl⟩ | ⟨rfl, rfl⟩ | ⟨rfl, rfl⟩ | ⟨rfl, rfl⟩ | ⟨rfl, rfl⟩ | ⟨rfl, rfl⟩ | ⟨rfl, rfl⟩ | ⟨rfl, rfl⟩ | ⟨rfl, rfl⟩ | ⟨rfl, rfl⟩ | ⟨rfl, rfl⟩ | ⟨rfl, rfl⟩ | ⟨rfl, rfl⟩ | ⟨rfl, rfl⟩ | ⟨rfl, rfl⟩ | ⟨rfl, rfl⟩ | ⟨rfl, rfl⟩ | ⟨rfl, rfl⟩ | ⟨rfl, rfl⟩ | ⟨rfl, rfl⟩ | ⟨rfl, rfl⟩ | ⟨rfl, rfl⟩ | ⟨rfl, rfl⟩ | ⟨rfl, rfl⟩ | ⟨rfl, rfl⟩ | ⟨rfl, rfl⟩ | ⟨rfl, rfl⟩ | ⟨rfl, rfl⟩ | ⟨rfl, rfl⟩ | ⟨rfl, rfl⟩ | ⟨rfl, rfl⟩ | ⟨rfl, rfl⟩ | ⟨rfl, rfl⟩ | ⟨rfl, rfl⟩ | ⟨rfl, rfl⟩ <;> first | exact absurd hi (by decide) | exact absurd hj (by decide) | (intro s u s1 v s2 h1 h2; (first | (obtain ⟨_, rfl, rfl⟩ := h2; exact ⟨_, _, ⟨0, rfl, rfl⟩⟩) | (obtain ⟨_, _, rfl, rfl⟩ := h2; exact ⟨_, _, ⟨0, 0, rfl, rfl⟩⟩)))) (by intro i j hu hi hj; have hu : (i, j) ∈ ([(0, 7), (0, 8), (0, 14), (0, 15), (1, 7), (1, 8), (1, 14), (1, 15), (1, 18), (2, 7), (2, 14), (3, 7), (3, 14), (4, 7), (4, 14), (5, 7), (5, 14), (6, 14), (7, 0), (7, 1), (7, 2), (7, 3), (7, 4), (7, 5), (7, 9), (7, 10), (7, 11), (7, 12), (7, 13), (7, 14), (8, 0), (8, 1), (8, 9), (8, 10), (8, 11), (8, 12), (8, 13), (8, 14), (9, 7), (9, 8), (9, 14), (10, 7), (10, 8), (10, 14), (11, 7), (11, 8), (11, 14), (12, 7), (12, 8), (12, 14), (13, 7), (13, 8), (14, 0), (14, 1), (14, 2), (14, 3), (14, 4), (14, 5), (14, 6), (14, 7), (14, 8), (14, 9), (14, 10), (14, 11), (14, 12), (15, 0), (15, 1), (18, 1)] : List (Nat × Nat)) := mem_un hu; simp only [List.mem_cons, Prod.mk.injEq, List.not_mem_nil, or_false] at hu; rcases hu with ⟨rfl, rfl⟩ | ⟨rfl, rfl⟩ | ⟨rfl, rfl⟩ | ⟨rfl, rfl⟩ | ⟨rfl, rfl⟩ | ⟨rfl, rfl⟩ | ⟨rfl, rfl⟩ | ⟨rfl, rfl⟩ | ⟨rfl, rfl⟩ | ⟨rfl, rfl⟩ | ⟨rfl, rfl⟩ | ⟨rfl, rfl⟩ | ⟨rfl, rfl⟩ | ⟨rfl, rfl⟩ | ⟨rfl, rfl⟩ | ⟨rfl, rfl⟩ | ⟨rfl, rfl⟩ | ⟨rfl, rfl⟩ | ⟨rfl, rfl⟩ | ⟨rfl, rfl⟩ | ⟨rfl, rfl⟩ | ⟨rfl, rfl⟩ | ⟨rfl, rfl⟩ | ⟨rfl, rfl⟩ | ⟨rfl, rfl⟩ | ⟨rfl, rfl⟩ | ⟨rfl, rfl⟩ | ⟨rfl, rfl⟩ | ⟨rfl, rfl⟩ | ⟨rfl, rfl⟩ | ⟨rfl, rfl⟩ | ⟨rfl, rfl⟩ | ⟨rfl, rfl⟩ | ⟨rfl, rfl⟩ | ⟨rfl, rfl⟩ | ⟨rfl, rfl⟩ | ⟨rfl, rfl⟩ | ⟨rfl, rfl⟩ | ⟨rfl, rfl⟩ | ⟨rfl, rfl⟩ | ⟨rfl, rfl⟩ | ⟨rfl, rfl⟩ | ⟨rfl, rfl⟩ | ⟨rfl, rfl⟩ | ⟨rfl, rfl⟩ | ⟨rfl, rfl⟩ | ⟨rfl, rfl⟩ | ⟨rfl, rfl⟩ | ⟨rfl, rfl⟩ | ⟨rfl, rfl⟩ | ⟨rfl, rfl⟩ | ⟨rfl, rfl⟩ | ⟨rfl, rfl⟩ | ⟨rfl, rfl⟩ | ⟨rfl, rfl⟩ | ⟨rfl, rfl⟩ | ⟨rfl, rfl⟩ | ⟨rfl, rfl⟩ | ⟨rfl, rfl⟩ | ⟨rfl, rfl⟩ | ⟨rfl, rfl⟩ | ⟨rfl, rfl⟩ | ⟨rfl, rfl⟩ | ⟨rfl, rfl⟩ | ⟨rfl, rfl⟩ | ⟨rfl, rfl⟩ | ⟨rfl, rfl⟩ | ⟨rfl, rfl⟩ <;> first | exact absurd hi (by decide) | exact absurd hj (by decide) | (intro s v s1 h1; rfl)) (by kernel_rfl) ?_
  iterate 5 ((refine flowW_late (fun _ => True) rfl rfl trivial (fun _ _ _ _ _ _ _ => Iff.rfl) (fun s0 w' hE hR => ?_) (fun K hK => ?_); (focus (have hn := hR.node; (try rw [hE] at hn); (try rw [if_neg (by decide)] at hn); obtain ⟨⟨q4, q5⟩, _⟩ := nodeO_get hn; clear hn hR; go_simp; (try go_bits); first | done | exact rfl | (cases hE; rfl))); (try simp only [rfV]); go_simp; (try go_bits); refine hK _ ?_; clear hK K))
  (refine flowW_late (fun σ => σ.s1 = false) rfl rfl rfl (by intro j hu hj s v s1 hT; have hu : (5, j) ∈ ([(0, 7), (0, 8), (0, 14), (0, 15), (1, 7), (1, 8), (1, 14), (1, 15), (1, 18), (2, 7), (2, 14), (3, 7), (3, 14), (4, 7), (4, 14), (5, 7), (5, 14), (6, 14), (7, 0), (7, 1), (7, 2), (7, 3), (7, 4), (7, 5), (7, 9), (7, 10), (7, 11), (7, 12), (7, 13), (7, 14), (8, 0), (8, 1), (8, 9), (8, 10), (8, 11), (8, 12), (8, 13), (8, 14), (9, 7), (9, 8), (9, 14), (10, 7), (10, 8), (10, 14), (11, 7), (11, 8), (11, 14), (12, 7), (12, 8), (12, 14), (13, 7), (13, 8), (14, 0), (14, 1), (14, 2), (14, 3), (14, 4), (14, 5), (14, 6), (14, 7), (14, 8), (14, 9), (14, 10), (14, 11), (14, 12), (15, 0), (15, 1), (18, 1)] : List (Nat × Nat)) := mem_un hu; simp only [List.mem_cons, Prod.mk.injEq, List.not_mem_nil, or_false, Nat.reduceEqDiff, false_and, true_and, false_or] at hu; (try (rcases hu with rfl | rfl)) <;> first | exact absurd hj (by decide) | (first | (obtain ⟨rfl, rfl⟩ := hT; exact Iff.rfl) | (obtain ⟨_, rfl, rfl⟩ := hT; exact Iff.rfl) | (obtain ⟨_, _, rfl, rfl⟩ := hT; exact Iff.rfl))) (fun s0 w' hE hR => ?_) (fun K hK => ?_); (focus (have hn := hR.node; (try rw [hE] at hn); (try rw [if_neg (by decide)] at hn); obtain ⟨⟨q4, q5⟩, _⟩ := nodeO_get hn; clear hn hR; go_simp; (try go_bits); first | done | exact rfl | (cases hE; rfl))); (try simp only [rfV]); go_simp; (try go_bits); refine hK _ ?_; clear hK K)
  (refine flowW_late (fun _ => True) rfl rfl trivial (fun _ _ _ _ _ _ _ => Iff.rfl) (fun s0 w' hE hR => ?_) (fun K hK => ?_); (focus (have hn := hR.node; (try rw [hE] at hn); (try rw [if_neg (by decide)] at hn); obtain ⟨⟨q4, q5⟩, _⟩ := nodeO_get hn; clear hn hR; go_simp; (try go_bits); first | done | exact rfl | (cases hE; rfl))); (try simp only [rfV]); go_simp; (try go_bits); refine hK _ ?_; clear hK K)
  refine flowW_step (fun σ => σ.a1 = false ∧ σ.z1 = none) (by decide) rfl ⟨rfl, rfl⟩ (by intro j hu hj s v s1 hT; have hu : (7, j) ∈ ([(0, 7), (0, 8), (0, 14), (0, 15), (1, 7), (1, 8), (1, 14), (1, 15), (1, 18), (2, 7), (2, 14), (3, 7), (3, 14), (4, 7), (4, 14), (5, 7), (5, 14), (6, 14), (7, 0), (7, 1), (7, 2), (7, 3), (7, 4), (7, 5), (7, 9), (7, 10), (7, 11), (7, 12), (7, 13), (7, 14), (8, 0), (8, 1), (8, 9), (8, 10), (8, 11), (8, 12), (8, 13), (8, 14), (9, 7), (9, 8), (9, 14), (10, 7), (10, 8), (10, 14), (11, 7), (11, 8), (11, 14), (12, 7), (12, 8), (12, 14), (13, 7), (13, 8), (14, 0), (14, 1), (14, 2), (14, 3), (14, 4), (14, 5), (14, 6), (14, 7), (14, 8), (14, 9), (14, 10), (14, 11), (14, 12), (15, 0), (15, 1), (18, 1)] : List (Nat × Nat)) := mem_un hu; simp only [List.mem_cons, Prod.mk.injEq, List.not_mem_nil, or_false, Nat.reduceEqDiff, false_and, true_and, false_or] at hu; (try (rcases hu with rfl | rfl | rfl | rfl | rfl | rfl | rfl | rfl | rfl | rfl | rfl | rfl)) <;> first | exact absurd hj (by decide) | (first | (obtain ⟨rfl, rfl⟩ := hT; exact Iff.rfl) | (obtain ⟨_, rfl, rfl⟩ := hT; exact Iff.rfl) | (obtain ⟨_, _, rfl, rfl⟩ := hT; exact Iff.rfl))) ⟨.slice (some ⟨0, 0, none⟩) 1 1, _, 0, rfl, rfl⟩ (fun s0 w' hE hR => ?_) (fun K hK v s2 hs2 => ?_)
  focus
    obtain ⟨hE1, hE2⟩ := hE
    have hnd := hR.node
    have hlt := (Array.getElem?_eq_some_iff.1 hnd).1
    go_simp
    exact ⟨{ s0 with z1 := some w'.heap.size }, ⟨_, rfl, rfl⟩, hR.fr.alloc _, (Below.heap_alloc _ _ _ hlt).trans hnd, fun h => (hR.rowL h).alloc _, fun _ g hg => (by obtain rfl : w'.heap.size = g := (by simpa using hg); exact ⟨hR.fr.size, heap_new rfl⟩), fun h => (no_tf h hE1).elim, fun h => (no_tf h hE1).elim, fun h => (hR.rowN h).alloc _, fun h g hg => ⟨(hR.oneN h g hg).1, (Below.heap_alloc _ _ _ (Array.getElem?_eq_some_iff.1 (hR.oneN h g hg).2).1).trans (hR.oneN h g hg).2⟩, fun h => (hR.newN h).alloc _, hR.locN⟩
  obtain ⟨gz1, rfl, rfl⟩ := hs2
  (go_simp; refine hK _ _ ?_; clear hK K)
  refine flowW_step (fun σ => σ.a1 = false ∧ σ.z1 = some gz1 ∧ σ.a2 = false ∧ σ.s1 = false) (by decide) rfl ⟨rfl, rfl, rfl, rfl⟩ (by intro j hu hj s v s1 hT; have hu : (8, j) ∈ ([(0, 7), (0, 8), (0, 14), (0, 15), (1, 7), (1, 8), (1, 14), (1, 15), (1, 18), (2, 7), (2, 14), (3, 7), (3, 14), (4, 7), (4, 14), (5, 7), (5, 14), (6, 14), (7, 0), (7, 1), (7, 2), (7, 3), (7, 4), (7, 5), (7, 9), (7, 10), (7, 11), (7, 12), (7, 13), (7, 14), (8, 0), (8, 1), (8, 9), (8, 10), (8, 11), (8, 12), (8, 13), (8, 14), (9, 7), (9, 8), (9, 14), (10, 7), (10, 8), (10, 14), (11, 7), (11, 8), (11, 14), (12, 7), (12, 8), (12, 14), (13, 7), (13, 8), (14, 0), (14, 1), (14, 2), (14, 3), (14, 4), (14, 5), (14, 6), (14, 7), (14, 8), (14, 9), (14, 10), (14, 11), (14, 12), (15, 0), (15, 1), (18, 1)] : List (Nat × Nat)) := mem_un hu; simp only [List.mem_cons, Prod.mk.injEq, List.not_mem_nil, or_false, Nat.reduceEqDiff, false_and, true_and, false_or] at hu; (try (rcases hu with rfl | rfl | rfl | rfl | rfl | rfl | rfl | rfl)) <;> first | exact absurd hj (by decide) | (first | (obtain ⟨rfl, rfl⟩ := hT; exact Iff.rfl) | (obtain ⟨_, rfl, rfl⟩ := hT; exact Iff.rfl) | (obtain ⟨_, _, rfl, rfl⟩ := hT; exact Iff.rfl))) ⟨_, _, 0, 0, rfl, rfl⟩ (fun s0 w' hE hR => ?_) (fun K hK v s2 hs2 => ?_)
  focus
    obtain ⟨hE1, hE2, hE3, hE4⟩ := hE
    have hnd := hR.node
    have hltn := (Array.getElem?_eq_some_iff.1 hnd).1
    obtain ⟨hg1, hg2⟩ := hR.oneL hE1 gz1 hE2
    have hro := hR.rowL hE1
    have hfr := hR.fr
    have hcl : ∀ j u, ([Value.string (bsS p)] : List Value)[j]? = some u → w'.cell? ((⟨gz1, 0, none⟩ : Addr).add j) = some u := fun j u hj => by
      rw [addr_add, Lib.cell_of_heap hg2, Nat.zero_add]
      simpa using hj
    obtain ⟨v', w2, hrun, hown', hgrow, _, hloc⟩ := run_append_own_at (P := Tryz.prog) w' B 23 23 9 i0 _ 1 16 Tryz.underlying23 hi hz0 hz1 hz2 rfl (by decide) _ _ _ hro ⟨gz1, 0, none⟩ 1 1 ([Value.string (bsS p)] : List Value) rfl hcl (by simp [Value.oneCell']) (by unfold maxLen; omega) (by omega) (by have := hfr.size; omega)
    rw [append_exec (P := Tryz.prog) rfl rfl rfl hrun]
    obtain ⟨g', cap', rfl⟩ := ownsRow_succ hown'
    have hkk : ∀ h : (Value.slice la m lc).ownBlock = some k, False := fun h => by
      have := oL k h
      omega
    refine ⟨_, ⟨g', cap', rfl, rfl⟩, hfr.trans ⟨hgrow.os, hgrow.tape, hgrow.output, hgrow.size, fun j hj hT => hgrow.block j hj fun e => hT (.inl (.inl e.symm))⟩, (by have h5 := (hgrow.block _ hltn (fun e => hkk e.symm)).trans hnd; simp only [hE4] at h5 ⊢; exact h5), fun h => (by cases h), fun h => (by cases h), fun _ => hown', fun _ => ?_, fun h => row_same (hR.rowN h) fun g hg hc => hgrow.block g hc.lt (fun e => hLN g e.symm hg), fun h g hg => ⟨(hR.oneN h g hg).1, (hgrow.block g (Array.getElem?_eq_some_iff.1 (hR.oneN h g hg).2).1 (fun e => by have := oL g e.symm; have := (hR.oneN h g hg).1; omega)).trans (hR.oneN h g hg).2⟩, fun h => (no_tf h hE3).elim, fun h => (no_tf h hE3).elim⟩
    rcases hloc with h | h
    · exact .inl h.symm
    · obtain rfl : g' = w'.heap.size := by simpa [Value.ownBlock] using h
      exact .inr hfr.size
  obtain ⟨ga1, capa1, rfl, rfl⟩ := hs2
  (go_simp; refine hK _ _ ?_; clear hK K)
  iterate 3 ((refine flowW_late (fun _ => True) rfl rfl trivial (fun _ _ _ _ _ _ _ => Iff.rfl) (fun s0 w' hE hR => ?_) (fun K hK => ?_); (focus (have hn := hR.node; (try rw [hE] at hn); (try rw [if_neg (by decide)] at hn); obtain ⟨⟨q4, q5⟩, _⟩ := nodeO_get hn; clear hn hR; go_simp; (try go_bits); first | done | exact rfl | (cases hE; rfl))); (try simp only [rfV]); go_simp; (try go_bits); refine hK _ ?_; clear hK K))
  (refine flowW_late (fun σ => σ.s2 = false) rfl rfl rfl (by intro j hu hj s v s1 hT; have hu : (12, j) ∈ ([(0, 7), (0, 8), (0, 14), (0, 15), (1, 7), (1, 8), (1, 14), (1, 15), (1, 18), (2, 7), (2, 14), (3, 7), (3, 14), (4, 7), (4, 14), (5, 7), (5, 14), (6, 14), (7, 0), (7, 1), (7, 2), (7, 3), (7, 4), (7, 5), (7, 9), (7, 10), (7, 11), (7, 12), (7, 13), (7, 14), (8, 0), (8, 1), (8, 9), (8, 10), (8, 11), (8, 12), (8, 13), (8, 14), (9, 7), (9, 8), (9, 14), (10, 7), (10, 8), (10, 14), (11, 7), (11, 8), (11, 14), (12, 7), (12, 8), (12, 14), (13, 7), (13, 8), (14, 0), (14, 1), (14, 2), (14, 3), (14, 4), (14, 5), (14, 6), (14, 7), (14, 8), (14, 9), (14, 10), (14, 11), (14, 12), (15, 0), (15, 1), (18, 1)] : List (Nat × Nat)) := mem_un hu; simp only [List.mem_cons, Prod.mk.injEq, List.not_mem_nil, or_false, Nat.reduceEqDiff, false_and, true_and, false_or] at hu; (try (rcases hu with rfl | rfl | rfl)) <;> first | exact absurd hj (by decide) | (first | (obtain ⟨rfl, rfl⟩ := hT; exact Iff.rfl) | (obtain ⟨_, rfl, rfl⟩ := hT; exact Iff.rfl) | (obtain ⟨_, _, rfl, rfl⟩ := hT; exact Iff.rfl))) (fun s0 w' hE hR => ?_) (fun K hK => ?_); (focus (have hn := hR.node; (try rw [hE] at hn); (try rw [if_neg (by decide)] at hn); obtain ⟨⟨q4, q5⟩, _⟩ := nodeO_get hn; clear hn hR; go_simp; (try go_bits); first | done | exact rfl | (cases hE; rfl))); (try simp only [rfV]); go_simp; (try go_bits); refine hK _ ?_; clear hK K)
  (refine flowW_late (fun _ => True) rfl rfl trivial (fun _ _ _ _ _ _ _ => Iff.rfl) (fun s0 w' hE hR => ?_) (fun K hK => ?_); (focus (have hn := hR.node; (try rw [hE] at hn); (try rw [if_neg (by decide)] at hn); obtain ⟨⟨q4, q5⟩, _⟩ := nodeO_get hn; clear hn hR; go_simp; (try go_bits); first | done | exact rfl | (cases hE; rfl))); (try simp only [rfV]); go_simp; (try go_bits); refine hK _ ?_; clear hK K)
  refine flowW_step (fun σ => σ.a2 = false ∧ σ.z2 = none) (by decide) rfl ⟨rfl, rfl⟩ (by intro j hu hj s v s1 hT; have hu : (14, j) ∈ ([(0, 7), (0, 8), (0, 14), (0, 15), (1, 7), (1, 8), (1, 14), (1, 15), (1, 18), (2, 7), (2, 14), (3, 7), (3, 14), (4, 7), (4, 14), (5, 7), (5, 14), (6, 14), (7, 0), (7, 1), (7, 2), (7, 3), (7, 4), (7, 5), (7, 9), (7, 10), (7, 11), (7, 12), (7, 13), (7, 14), (8, 0), (8, 1), (8, 9), (8, 10), (8, 11), (8, 12), (8, 13), (8, 14), (9, 7), (9, 8), (9, 14), (10, 7), (10, 8), (10, 14), (11, 7), (11, 8), (11, 14), (12, 7), (12, 8), (12, 14), (13, 7), (13, 8), (14, 0), (14, 1), (14, 2), (14, 3), (14, 4), (14, 5), (14, 6), (14, 7), (14, 8), (14, 9), (14, 10), (14, 11), (14, 12), (15, 0), (15, 1), (18, 1)] : List (Nat × Nat)) := mem_un hu; simp only [List.mem_cons, Prod.mk.injEq, List.not_mem_nil, or_false, Nat.reduceEqDiff, false_and, true_and, false_or] at hu; (try (rcases hu with rfl | rfl | rfl | rfl | rfl | rfl | rfl | rfl | rfl | rfl | rfl | rfl | rfl)) <;> first | exact absurd hj (by decide) | (first | (obtain ⟨rfl, rfl⟩ := hT; exact Iff.rfl) | (obtain ⟨_, rfl, rfl⟩ := hT; exact Iff.rfl) | (obtain ⟨_, _, rfl, rfl⟩ := hT; exact Iff.rfl))) ⟨.slice (some ⟨0, 0, none⟩) 1 1, _, 0, rfl, rfl⟩ (fun s0 w' hE hR => ?_) (fun K hK v s2 hs2 => ?_)
  focus
    obtain ⟨hE1, hE2⟩ := hE
    have hnd := hR.node
    have hlt := (Array.getElem?_eq_some_iff.1 hnd).1
    go_simp
    exact ⟨{ s0 with z2 := some w'.heap.size }, ⟨_, rfl, rfl⟩, hR.fr.alloc _, (Below.heap_alloc _ _ _ hlt).trans hnd, fun h => (hR.rowL h).alloc _, fun h g hg => ⟨(hR.oneL h g hg).1, (Below.heap_alloc _ _ _ (Array.getElem?_eq_some_iff.1 (hR.oneL h g hg).2).1).trans (hR.oneL h g hg).2⟩, fun h => (hR.newL h).alloc _, hR.locL, fun h => (hR.rowN h).alloc _, fun _ g hg => (by obtain rfl : w'.heap.size = g := (by simpa using hg); exact ⟨hR.fr.size, heap_new rfl⟩), fun h => (no_tf h hE1).elim, fun h => (no_tf h hE1).elim⟩
  obtain ⟨gz2, rfl, rfl⟩ := hs2
  (go_simp; refine hK _ _ ?_; clear hK K)
  refine flowW_step (fun σ => σ.a2 = false ∧ σ.z2 = some gz2 ∧ σ.a1 = true ∧ σ.s2 = false) (by decide) rfl ⟨rfl, rfl, rfl, rfl⟩ (by intro j hu hj s v s1 hT; have hu : (15, j) ∈ ([(0, 7), (0, 8), (0, 14), (0, 15), (1, 7), (1, 8), (1, 14), (1, 15), (1, 18), (2, 7), (2, 14), (3, 7), (3, 14), (4, 7), (4, 14), (5, 7), (5, 14), (6, 14), (7, 0), (7, 1), (7, 2), (7, 3), (7, 4), (7, 5), (7, 9), (7, 10), (7, 11), (7, 12), (7, 13), (7, 14), (8, 0), (8, 1), (8, 9), (8, 10), (8, 11), (8, 12), (8, 13), (8, 14), (9, 7), (9, 8), (9, 14), (10, 7), (10, 8), (10, 14), (11, 7), (11, 8), (11, 14), (12, 7), (12, 8), (12, 14), (13, 7), (13, 8), (14, 0), (14, 1), (14, 2), (14, 3), (14, 4), (14, 5), (14, 6), (14, 7), (14, 8), (14, 9), (14, 10), (14, 11), (14, 12), (15, 0), (15, 1), (18, 1)] : List (Nat × Nat)) := mem_un hu; simp only [List.mem_cons, Prod.mk.injEq, List.not_mem_nil, or_false, Nat.reduceEqDiff, false_and, true_and, false_or] at hu; (try (rcases hu with rfl | rfl)) <;> first | exact absurd hj (by decide) | (first | (obtain ⟨rfl, rfl⟩ := hT; exact Iff.rfl) | (obtain ⟨_, rfl, rfl⟩ := hT; exact Iff.rfl) | (obtain ⟨_, _, rfl, rfl⟩ := hT; exact Iff.rfl))) ⟨_, _, 0, 0, rfl, rfl⟩ (fun s0 w' hE hR => ?_) (fun K hK v s2 hs2 => ?_)
  focus
    obtain ⟨hE1, hE2, hE3, hE4⟩ := hE
    have hnd := hR.node
    have hltn := (Array.getElem?_eq_some_iff.1 hnd).1
    obtain ⟨hg1, hg2⟩ := hR.oneN hE1 gz2 hE2
    have hro := hR.rowN hE1
    have hfr := hR.fr
    have hcl : ∀ j u, ([Value.pointer (some ⟨q, 0, none⟩)] : List Value)[j]? = some u → w'.cell? ((⟨gz2, 0, none⟩ : Addr).add j) = some u := fun j u hj => by
      rw [addr_add, Lib.cell_of_heap hg2, Nat.zero_add]
      simpa using hj
    obtain ⟨v', w2, hrun, hown', hgrow, _, hloc⟩ := run_append_own_at (P := Tryz.prog) w' B 108 108 106 j0 _ 1 8 Tryz.underlying108 hj hy0 hy1 hy2 rfl (by decide) _ _ _ hro ⟨gz2, 0, none⟩ 1 1 ([Value.pointer (some ⟨q, 0, none⟩)] : List Value) rfl hcl (by simp [Value.oneCell']) (by unfold maxLen; omega) (by omega) (by have := hfr.size; omega)
    rw [append_exec (P := Tryz.prog) rfl rfl rfl hrun]
    obtain ⟨g', cap', rfl⟩ := ownsRow_succ hown'
    have hkk : ∀ h : (Value.slice na m nc).ownBlock = some k, False := fun h => by
      have := oN k h
      omega
    refine ⟨_, ⟨g', cap', rfl, rfl⟩, hfr.trans ⟨hgrow.os, hgrow.tape, hgrow.output, hgrow.size, fun j hj hT => hgrow.block j hj fun e => hT (.inl (.inr e.symm))⟩, (by have h5 := (hgrow.block _ hltn (fun e => hkk e.symm)).trans hnd; simp only [hE4] at h5 ⊢; exact h5), fun h => (no_tf hE3 h).elim, fun h => (no_tf hE3 h).elim, fun h => row_same (hR.newL h) fun g hg hc => hgrow.block g hc.lt (fun e => ?_), hR.locL, fun h => (by cases h), fun h => (by cases h), fun _ => hown', fun _ => ?_⟩
    · obtain rfl : s0.g1 = g := by simpa [Value.ownBlock] using hg
      rcases hR.locL h with h2 | h2
      · exact hLN _ h2 e.symm
      · have := oN _ e.symm
        omega
    · rcases hloc with h | h
      · exact .inl h.symm
      · obtain rfl : g' = w'.heap.size := by simpa [Value.ownBlock] using h
        exact .inr hfr.size
  obtain ⟨ga2, capa2, rfl, rfl⟩ := hs2
  (go_simp; refine hK _ _ ?_; clear hK K)
  iterate 2 ((refine flowW_readE rfl rfl (fun K hK => ?_); apply Exists.intro; apply And.intro; (focus (intro w' hR; have hn := hR.node; (try rw [hE] at hn); (try rw [if_neg (by decide)] at hn); obtain ⟨⟨q4, q5⟩, _⟩ := nodeO_get hn; clear hn hR; go_simp; (try go_bits); exact rfl)); go_simp; (try go_bits); refine hK _ ?_; clear hK K))
  refine flowW_step (fun σ => σ.a1 = true ∧ σ.s1 = false ∧ σ.g1 = ga1 ∧ σ.c1 = capa1) (by decide) rfl ⟨rfl, rfl, rfl, rfl⟩ (by intro j hu hj s v s1 hT; have hu : (18, j) ∈ ([(0, 7), (0, 8), (0, 14), (0, 15), (1, 7), (1, 8), (1, 14), (1, 15), (1, 18), (2, 7), (2, 14), (3, 7), (3, 14), (4, 7), (4, 14), (5, 7), (5, 14), (6, 14), (7, 0), (7, 1), (7, 2), (7, 3), (7, 4), (7, 5), (7, 9), (7, 10), (7, 11), (7, 12), (7, 13), (7, 14), (8, 0), (8, 1), (8, 9), (8, 10), (8, 11), (8, 12), (8, 13), (8, 14), (9, 7), (9, 8), (9, 14), (10, 7), (10, 8), (10, 14), (11, 7), (11, 8), (11, 14), (12, 7), (12, 8), (12, 14), (13, 7), (13, 8), (14, 0), (14, 1), (14, 2), (14, 3), (14, 4), (14, 5), (14, 6), (14, 7), (14, 8), (14, 9), (14, 10), (14, 11), (14, 12), (15, 0), (15, 1), (18, 1)] : List (Nat × Nat)) := mem_un hu; simp only [List.mem_cons, Prod.mk.injEq, List.not_mem_nil, or_false, Nat.reduceEqDiff, false_and, true_and, false_or] at hu; (try (rcases hu with rfl)) <;> first | exact absurd hj (by decide) | (first | (obtain ⟨rfl, rfl⟩ := hT; exact Iff.rfl) | (obtain ⟨_, rfl, rfl⟩ := hT; exact Iff.rfl) | (obtain ⟨_, _, rfl, rfl⟩ := hT; exact Iff.rfl))) ⟨undef, _, rfl, rfl⟩ (fun s0 w' hE hR => ?_) (fun K hK v s2 hs2 => ?_)
  focus
    obtain ⟨hE1, hE2, rfl, rfl⟩ := hE
    have hnd := hR.node
    rw [hE2, if_neg (by decide)] at hnd
    obtain ⟨⟨q4, q5⟩, qf⟩ := nodeO_get hnd
    have f4 := qf 4
    clear qf
    have hput := nodeO_set4 hnd (.slice (some ⟨s0.g1, 0, none⟩) (m + 1) s0.c1)
    have rs : ∀ {e n} {v : Value} {xs : List Value}, w'.ownsRow B e 1 v n xs → (w'.setCell ⟨k, 4, none⟩ (.slice (some ⟨s0.g1, 0, none⟩) (m + 1) s0.c1)).ownsRow B e 1 v n xs := fun h => row_same h fun g hg _ => heap_set_ne (by have := row_lt h g hg; omega)
    go_simp
    exact ⟨{ s0 with s1 := true }, ⟨rfl, rfl⟩, hR.fr.setCell (.inl (.inr rfl)) _, hput, fun h => (no_tf hE1 h).elim, fun h => (no_tf hE1 h).elim, fun h => rs (hR.newL h), hR.locL, fun h => rs (hR.rowN h), fun h g hg => ⟨(hR.oneN h g hg).1, (heap_set_ne (by have := (hR.oneN h g hg).1; omega)).trans (hR.oneN h g hg).2⟩, fun h => rs (hR.newN h), hR.locN⟩
  obtain ⟨rfl, rfl⟩ := hs2
  (go_simp; refine hK _ _ ?_; clear hK K)
  iterate 2 ((refine flowW_readE rfl rfl (fun K hK => ?_); apply Exists.intro; apply And.intro; (focus (intro w' hR; have hn := hR.node; (try rw [hE] at hn); (try rw [if_neg (by decide)] at hn); obtain ⟨⟨q4, q5⟩, _⟩ := nodeO_get hn; clear hn hR; go_simp; (try go_bits); exact rfl)); go_simp; (try go_bits); refine hK _ ?_; clear hK K))
  refine flowW_step (fun σ => σ.a2 = true ∧ σ.s2 = false ∧ σ.g2 = ga2 ∧ σ.c2 = capa2 ∧ σ.a1 = true) (by decide) rfl ⟨rfl, rfl, rfl, rfl, rfl⟩ (by intro j hu; exact absurd (mem_un (l := ([(0, 7), (0, 8), (0, 14), (0, 15), (1, 7), (1, 8), (1, 14), (1, 15), (1, 18), (2, 7), (2, 14), (3, 7), (3, 14), (4, 7), (4, 14), (5, 7), (5, 14), (6, 14), (7, 0), (7, 1), (7, 2), (7, 3), (7, 4), (7, 5), (7, 9), (7, 10), (7, 11), (7, 12), (7, 13), (7, 14), (8, 0), (8, 1), (8, 9), (8, 10), (8, 11), (8, 12), (8, 13), (8, 14), (9, 7), (9, 8), (9, 14), (10, 7), (10, 8), (10, 14), (11, 7), (11, 8), (11, 14), (12, 7), (12, 8), (12, 14), (13, 7), (13, 8), (14, 0), (14, 1), (14, 2), (14, 3), (14, 4), (14, 5), (14, 6), (14, 7), (14, 8), (14, 9), (14, 10), (14, 11), (14, 12), (15, 0), (15, 1), (18, 1)] : List (Nat × Nat))) hu) (by simp)) ⟨undef, _, rfl, rfl⟩ (fun s0 w' hE hR => ?_) (fun K hK v s2 hs2 => ?_)
  focus
    obtain ⟨hE1, hE2, rfl, rfl, hE3⟩ := hE
    have hnd := hR.node
    rw [hE2, if_neg (by decide : ¬ (false = true))] at hnd
    obtain ⟨⟨q4, q5⟩, qf⟩ := nodeO_get hnd
    have f5 := qf 5
    clear qf
    have hput := nodeO_set5 hnd (.slice (some ⟨s0.g2, 0, none⟩) (m + 1) s0.c2)
    have rs : ∀ {e n} {v : Value} {xs : List Value}, w'.ownsRow B e 1 v n xs → (w'.setCell ⟨k, 5, none⟩ (.slice (some ⟨s0.g2, 0, none⟩) (m + 1) s0.c2)).ownsRow B e 1 v n xs := fun h => row_same h fun g hg _ => heap_set_ne (by have := row_lt h g hg; omega)
    go_simp
    exact ⟨{ s0 with s2 := true }, ⟨rfl, rfl⟩, hR.fr.setCell (.inl (.inr rfl)) _, hput, fun h => (no_tf hE3 h).elim, fun h => (no_tf hE3 h).elim, fun h => rs (hR.newL h), hR.locL, fun h => (no_tf hE1 h).elim, fun h => (no_tf hE1 h).elim, fun h => rs (hR.newN h), hR.locN⟩
  obtain ⟨rfl, rfl⟩ := hs2
  (go_simp; refine hK _ _ ?_; clear hK K)
  refine flowW_nil ?_
  intro W2 hR2
  have f2 := hR2.fr
  have l2 := hR2.newL rfl
  have p2 := hR2.newN rfl
  have lo := hR2.locL rfl
  have no := hR2.locN rfl
  have nd2 := hR2.node
  rw [if_pos rfl, if_pos rfl] at nd2
  clear hR2
  dsimp only at l2 p2 lo no nd2
  have s2 := f2.size
  have hTb : ∀ g, ((Value.slice la m lc).ownBlock = some g ∨ (Value.slice na m nc).ownBlock = some g) ∨ g = k → 3 ≤ g ∧ g < W.heap.size := fun g h => by
    rcases h with (h | h) | h
    · have := oL g h
      omega
    · have := oN g h
      omega
    · omega
  have f02 : Fr (fun g => ((Value.slice la m lc).ownBlock = some g ∨ (Value.slice na m nc).ownBlock = some g) ∨ g = k) W W2 := ⟨f2.os.trans b1.os, f2.tape.trans b1.tape, f2.output.trans b1.output, by omega, fun g hg hnT => (f2.block g (by omega) hnT).trans (b1.block g hg)⟩
  have hy2 : nodeF (fun g => F g ∧ g < W.heap.size) W2 x lsy (.pointer (some ⟨q, 0, none⟩)) ney := hy.to fun g hg hc => ⟨⟨hg, hc.lt⟩, f02.block g hc.lt (hF g hg)⟩
  have hT2 : KT W2 := hT.fr f02 fun g hg => (hTb g hg).1
  have hr2 : W2.heap[W.heap.size]? = some (.cells #[.bool false, .string ⟨#[]⟩, .slice none 0 0] 51 (0, 0)) := (f2.block _ (by omega) (fun h => by have := hTb _ h; omega)).trans hr1
  have hdis : ∀ g, (Value.slice (some ⟨ga1, 0, none⟩) (m + 1) capa1).ownBlock = some g → (Value.slice (some ⟨ga2, 0, none⟩) (m + 1) capa2).ownBlock ≠ some g := fun g h1 h2 => by
    obtain ⟨c1, e1⟩ := row_own l2 g h1
    obtain ⟨c2, e2⟩ := row_own p2 g h2
    rw [e1] at e2
    simp at e2
  have hl1 : ∀ g, (Value.slice (some ⟨ga1, 0, none⟩) (m + 1) capa1).ownBlock = some g → (Value.slice la m lc).ownBlock = some g ∨ W.heap.size ≤ g := fun g h => by
    obtain rfl : ga1 = g := by simpa [Value.ownBlock] using h
    exact lo.imp id (fun h => by omega)
  have hl2 : ∀ g, (Value.slice (some ⟨ga2, 0, none⟩) (m + 1) capa2).ownBlock = some g → (Value.slice na m nc).ownBlock = some g ∨ W.heap.size ≤ g := fun g h => by
    obtain rfl : ga2 = g := by simpa [Value.ownBlock] using h
    exact no.imp id (fun h => by omega)
  have hg1 : ga1 ≠ W.heap.size := fun e => by
    obtain ⟨c1, e1⟩ := row_own l2 ga1 rfl
    rw [e, hr2] at e1
    simp at e1
  have hg2 : ga2 ≠ W.heap.size := fun e => by
    obtain ⟨c1, e1⟩ := row_own p2 ga2 rfl
    rw [e, hr2] at e1
    simp at e1
  -- what stays through what is laid behind
  have hend : ∀ w' v, Fr (fun g => g = W.heap.size) W2 w' → itF F w' (refI x) v → rfPost F W k B b t s by_ (.slice la m lc) (.slice na m nc) m ls ys p q x (.returned v) w' := fun w' v hb hv =>
    ⟨v, _, _, rfl, hv, (hb.block k (by omega) (by omega)).trans nd2, row_same l2 fun g hg hc => hb.block g hc.lt (by obtain rfl : ga1 = g := (by simpa [Value.ownBlock] using hg); exact hg1), row_same p2 fun g hg hc => hb.block g hc.lt (by obtain rfl : ga2 = g := (by simpa [Value.ownBlock] using hg); exact hg2), hl1, hl2, hdis,
      ⟨hb.os.trans f02.os, hb.tape.trans f02.tape, hb.output.trans f02.output, by have := hb.size; omega, fun g hg hnT => (hb.block g (by omega) (by omega)).trans (f02.block g hg hnT)⟩⟩
  obtain ⟨ky, py, cy, ley, ⟨hq, hFq⟩, hcq, ⟨c0, c1, c2, c3, _, _⟩, hxi, _⟩ := hy2.cells
  obtain rfl : q = ky := by simpa using hq
  have hz := bsS_size (enc x)
  obtain ⟨i0', i1', i2'⟩ := cell3 hr2
  have g0 := Lib.frozen_of_heap hr2 0
  have g1 := Lib.frozen_of_heap hr2 1
  have g2 := Lib.frozen_of_heap hr2 2
  have hqW : q ≠ W.heap.size := fun e => by
    have := hFq.2
    omega
  have hendh := Lib.hid hend
  have hxih := Lib.hid hxi
  clear hend hxi hl1 hl2 hdis l2 p2 lo no nd2 hy hy2 hTb f02 f2 hL hN hL1 hN1 hLN hF hnode n1 hr1
  by_cases hsm : (enc x).length < 32
  · have hsi : ((enc x).length : Int) < 32 := by omega
    go_wp2
    have hfr : Fr (fun g => g = W.heap.size) W2 (((W2.setCell ⟨W.heap.size, 0, none⟩ (.bool (isL x))).setCell ⟨W.heap.size, 1, none⟩ (.string (bsS (txt x)))).setCell ⟨W.heap.size, 2, none⟩ (.slice py (subs x).length cy)) := fr_set3 (Fr.refl _ W2) _ _ _
    have e : refI x = x := by unfold refI; rw [if_pos hsm]
    have hit : itF F (((W2.setCell ⟨W.heap.size, 0, none⟩ (.bool (isL x))).setCell ⟨W.heap.size, 1, none⟩ (.string (bsS (txt x)))).setCell ⟨W.heap.size, 2, none⟩ (.slice py (subs x).length cy)) (refI x) (.agg #[.bool (isL x), .string (bsS (txt x)), .slice py (subs x).length cy]) := by
      rw [e]
      refine itF.to (F := fun g => F g ∧ g < W.heap.size) (W := W2) (fun g hg hc => ⟨hg.1, ?_⟩) hxih.out
      have := hg.2
      rw [heap_set_ne (by omega), heap_set_ne (by omega), heap_set_ne (by omega)]
    have hfin := hendh.out _ _ hfr hit
    generalize rfPost F W k B b t s by_ (.slice la m lc) (.slice na m nc) m ls ys p q x = R at *
    exact bodyPost_ret (v := .agg #[.bool (isL x), .string (bsS (txt x)), .slice py (subs x).length cy]) (by simp only [results, Tryz.results83]; go_simp; try rfl) rfl hfin
  · have hsi : ¬ ((enc x).length : Int) < 32 := by omega
    go_wp2_with (first | (go_at_call 7; refine (Sum_one (enc x) _ _ (by rw [Lib.cell_of_heap (heap_new rfl)]; rfl) (by omega) (by simp; omega) (hT2.below ((Below.refl _ W2).alloc (Nat.le_refl _) _) (by omega))).mono ?_; rintro e w3 ⟨rfl, hb3⟩; rw [World.size_alloc] at hb3) | (go_at_call 13; refine (Text_any _ _).mono ?_; rintro e w4 ⟨rfl, hb4⟩; have h4 := (hb4.block W.heap.size (by have := hb3.size; simp at this; omega)).trans ((hb3.block W.heap.size (by omega)).trans ((Below.heap_alloc W2 (.cells #[.string (bsS (enc x))] 9) W.heap.size (by omega)).trans hr2)); obtain ⟨k0, k1, k2⟩ := cell3 h4; have u0 := Lib.frozen_of_heap h4 0; have u1 := Lib.frozen_of_heap h4 1; have u2 := Lib.frozen_of_heap h4 2))
    have z3 := hb3.size
    rw [World.size_alloc] at z3
    have b4 : Below W2.heap.size W2 w4 := (((Below.refl _ W2).alloc (Nat.le_refl _) _).trans (hb3.mono (by omega))).trans (hb4.mono (by omega))
    have hfr : Fr (fun g => g = W.heap.size) W2 (((w4.setCell ⟨W.heap.size, 0, none⟩ (.bool false)).setCell ⟨W.heap.size, 1, none⟩ (.string (bsS (dg (enc x))))).setCell ⟨W.heap.size, 2, none⟩ (.slice none 0 0)) := fr_set3 ((Fr.refl (fun g => g = W.heap.size) W2).below b4) _ _ _
    have e : refI x = .text (dg (enc x)) := by unfold refI; rw [if_neg hsm]
    have hit : itF F (((w4.setCell ⟨W.heap.size, 0, none⟩ (.bool false)).setCell ⟨W.heap.size, 1, none⟩ (.string (bsS (dg (enc x))))).setCell ⟨W.heap.size, 2, none⟩ (.slice none 0 0)) (refI x) (.agg #[.bool false, .string (bsS (dg (enc x))), .slice none 0 0]) := by
      rw [e, itF]
    have hfin := hendh.out _ _ hfr hit
    generalize rfPost F W k B b t s by_ (.slice la m lc) (.slice na m nc) m ls ys p q x = R at *
    exact bodyPost_ret (v := .agg #[.bool false, .string (bsS (dg (enc x))), .slice none 0 0]) (by simp only [results, Tryz.results83]; go_simp; try rfl) rfl hfin
end Go.Proofs.YtijidnhaijdfaaaGreatDoor
