/-
  Texts of one proof, one behind the other. Conditions: each text's own line says them.
-/
import Derived.Test.YtijidnhaijdfaaaGreatDoorPR23
import Derived.Test.YtijidnhaijdfaaaGreatDoorPR24

/- The node of leaves: grow. Conditions: leaves in order, paths of one length. -/
namespace Go.Proofs.YtijidnhaijdfaaaGreatDoor
open Go.RowKit
attribute [local go_sem] leftBy leaves Oper.semAt_some
set_option linter.unusedSimpArgs false
set_option linter.unusedVariables false

def growP (f : Nat) : Prop := ∀ (n : Nat) (L : List Lf) (v : Value) (W : World), n < f → n ≤ 128 → good n L → L ≠ [] → L.length ≤ 200 → lvF (fun _ => True) W v L → KT W → 3 ≤ W.heap.size →
  Calls Tryz.prog 63 #[v] W fun e w' => ∃ q, e = .returned (.pointer (some ⟨q, 0, none⟩)) ∧ ndF (fun g => W.heap.size ≤ g) w' (grow f L) (.pointer (some ⟨q, 0, none⟩)) ∧ Below W.heap.size W w'
/-- Where a region stands that lays a list of things and puts its item into the node k. -/
structure gwR (W1 : World) (k : Nat) (o1 : Obj) (o2 : Nat → Obj) (cs : Array Value) (s : Nat × Nat) (w' : World) : Prop where
  fr : Fr (fun q => q = k) W1 w'
  node : w'.heap[k]? = some (if s.1 ≤ 1 then o1 else o2 s.2)
  arr : 1 ≤ s.1 → W1.heap.size ≤ s.2 ∧ w'.heap[s.2]? = some (.cells cs 51 (0, 0))
theorem gwR.below {W1 w' w2 : World} {k : Nat} {o1 : Obj} {o2 : Nat → Obj} {cs : Array Value} {s : Nat × Nat} (h : gwR W1 k o1 o2 cs s w') (hb : Below w'.heap.size w' w2) : gwR W1 k o1 o2 cs s w2 :=
  ⟨h.fr.below hb, (hb.block k (Array.getElem?_eq_some_iff.1 h.node).1).trans h.node, fun h1 => ⟨(h.arr h1).1, (hb.block _ (Array.getElem?_eq_some_iff.1 (h.arr h1).2).1).trans (h.arr h1).2⟩⟩
theorem nodeO_set012 {W : World} {k : Nat} {b t s by_ le ne : Value} (h : W.heap[k]? = some (nodeO b t s by_ le ne)) (b' t' s' : Value) : (((W.setCell ⟨k, 0, none⟩ b').setCell ⟨k, 1, none⟩ t').setCell ⟨k, 2, none⟩ s').heap[k]? = some (nodeO b' t' s' by_ le ne) := by
  rw [setCell_at (setCell_at (setCell_at h 0 _) 1 _) 2]
  rfl
theorem nodeO_cells {W : World} {k : Nat} {b t s by_ le ne : Value} (h : W.heap[k]? = some (nodeO b t s by_ le ne)) : (W.cell? ⟨k, 0, none⟩ = some b ∧ W.cell? ⟨k, 1, none⟩ = some t ∧ W.cell? ⟨k, 2, none⟩ = some s ∧ W.cell? ⟨k, 3, none⟩ = some by_) ∧ ∀ j, W.frozen? ⟨k, j, none⟩ = false := by
  refine ⟨⟨?_, ?_, ?_, ?_⟩, fun j => Lib.frozen_of_heap h j⟩ <;> rw [Lib.cell_of_heap h] <;> rfl
theorem gwR.node1 {W1 w' : World} {k : Nat} {o1 : Obj} {o2 : Nat → Obj} {cs : Array Value} {s : Nat × Nat} (h : gwR W1 k o1 o2 cs s w') (hs : s.1 ≤ 1) : w'.heap[k]? = some o1 := by
  have := h.node
  rwa [if_pos hs] at this
theorem gwR.lay {W1 w' : World} {k : Nat} {o1 : Obj} {o2 : Nat → Obj} {cs : Array Value} {s : Nat × Nat} (h : gwR W1 k o1 o2 cs s w') (hs : s.1 ≤ 1) : gwR W1 k o1 o2 cs (1, w'.heap.size) (w'.alloc (.cells cs 51)) :=
  ⟨h.fr.alloc _, (Below.heap_alloc _ _ _ (Array.getElem?_eq_some_iff.1 h.node).1).trans (h.node1 hs), fun _ => ⟨h.fr.size, heap_new rfl⟩⟩
theorem gwR.put {W1 w' : World} {k : Nat} {b t s by_ le ne : Value} {o2 : Nat → Obj} {cs : Array Value} {g : Nat} {b' t' s' : Value} (h : gwR W1 k (nodeO b t s by_ le ne) o2 cs (1, g) w') (hk : k < W1.heap.size) (ho : o2 g = nodeO b' t' s' by_ le ne) :
    gwR W1 k (nodeO b t s by_ le ne) o2 cs (2, g) (((w'.setCell ⟨k, 0, none⟩ b').setCell ⟨k, 1, none⟩ t').setCell ⟨k, 2, none⟩ s') := by
  have hn := h.node1 (Nat.le_refl _)
  refine ⟨Fr.setCell (T := fun q => q = k) (Fr.setCell (T := fun q => q = k) (Fr.setCell (T := fun q => q = k) h.fr (.inl rfl) _) (.inl rfl) _) (.inl rfl) _, ?_, fun _ => ⟨(h.arr (Nat.le_refl _)).1, ?_⟩⟩
  · rw [if_neg (show ¬ (2, g).1 ≤ 1 from (by decide : ¬ (2 ≤ 1)))]
    exact (nodeO_set012 hn b' t' s').trans (congrArg some ho.symm)
  · have := (h.arr (Nat.le_refl _)).1
    rw [heap_set_ne (by omega), heap_set_ne (by omega), heap_set_ne (by omega)]
    exact (h.arr (Nat.le_refl _)).2
theorem nodeO_set3 {W : World} {k : Nat} {b t s by_ le ne : Value} (h : W.heap[k]? = some (nodeO b t s by_ le ne)) (v : Value) : (W.setCell ⟨k, 3, none⟩ v).heap[k]? = some (nodeO b t s v le ne) := by
  rw [setCell_at h 3]
  rfl
theorem itF_arr {F F' : Nat → Prop} {W : World} {l : List It} {cs : Array Value} {g : Nat} (h : W.heap[g]? = some (.cells cs 51 (0, 0))) (hx : cellsF F W l cs.toList) (hF : ∀ k, F k → F' k) (hg : F' g) (hlen : l.length ≤ maxLen) :
    itF F' W (.list l) (.agg #[.bool true, .string ⟨#[]⟩, .slice (some ⟨g, 0, none⟩) l.length l.length]) :=
  ⟨_, _, rfl, ⟨Nat.le_refl _, hlen⟩, itsF_of hF hg 0 hx fun j u hj => by
    rw [Lib.cell_of_heap h]
    simpa using hj⟩
theorem rowF_nil (F : Nat → Prop) (W : World) : rowF F W (.slice none 0 0) [] := ⟨none, 0, rfl, ⟨Nat.le_refl _, Nat.zero_le _⟩, fun i u h => by cases h⟩
theorem fr_below {N k : Nat} {W A B : World} (hb : Below N W A) (hf : Fr (fun q => q = k) A B) (hN : N ≤ k) (hs : N ≤ A.heap.size) : Below N W B :=
  ⟨hf.os.trans hb.os, hf.tape.trans hb.tape, hf.output.trans hb.output, Nat.le_trans hb.size hf.size, fun g hg => (hf.block g (by omega) (by omega)).trans (hb.block g hg)⟩
/-- What the steps of the one leaf's region leave. -/
def g1T (I J : Value) (k : Nat) (σ : Nat × Nat) (v : Value) (σ2 : Nat × Nat) : Prop := match k with
  | 6 => v = I ∧ σ2 = σ
  | 11 => v = J ∧ σ2 = σ
  | 12 => ∃ g, v = .slice (some ⟨g, 0, none⟩) 2 2 ∧ σ2 = (1, g)
  | 13 => v = .agg #[.bool true, .string ⟨#[]⟩, .slice (some ⟨σ.2, 0, none⟩) 2 2] ∧ σ2 = σ
  | 16 => v = undef ∧ σ2 = (2, σ.2)
  | _ => False
def g1V (k bl o c : Nat) (p u : Bs) (i : Nat) (_ : Nat × Nat) : Value := match i with
  | 1 => .func (Fn.func 80) #[] #[]
  | 2 => .slice (some ⟨bl, o, none⟩) 1 c
  | 3 => .pointer (some ⟨bl, o, none⟩)
  | 4 => .pointer (some ⟨bl, o, none⟩)
  | 5 => .string (bsS p)
  | 7 => .slice (some ⟨bl, o, none⟩) 1 c
  | 8 => .pointer (some ⟨bl, o, none⟩)
  | 9 => .pointer (some ⟨bl, o + 1, none⟩)
  | 10 => .string (bsS u)
  | _ => .pointer (some ⟨k, 0, none⟩)
set_option maxRecDepth 100000 in
set_option maxHeartbeats 16000000 in
theorem grow_leaf (f n : Nat) (x : Lf) (v : Value) (W : World) (hn : n ≤ 128) (hg : good n [x]) (hv : lvF (fun _ => True) W v [x]) (hT : KT W) (h3 : 3 ≤ W.heap.size) :
    Calls Tryz.prog 63 #[v] W fun e w' => ∃ q, e = .returned (.pointer (some ⟨q, 0, none⟩)) ∧ ndF (fun g => W.heap.size ≤ g) w' (.leaf x.1 x.2) (.pointer (some ⟨q, 0, none⟩)) ∧ Below W.heap.size W w' := by
  obtain ⟨hl1, hl2, hl3, hl4⟩ := hg.1 x (List.mem_cons_self ..)
  obtain ⟨a, c, rfl, hc, hx⟩ := hv
  obtain ⟨bl, o, ⟨rfl, _⟩, c0, c1⟩ := hx 0 x rfl
  rw [Nat.zero_mul, Nat.add_zero] at c0 c1
  have hlt := lt_of_cell c0
  clear hx
  have cC := fun w => Common_any x.1 x.1 (by omega) (by omega) w
  refine calls_FW (n := 9) ?_
  refine callsIn_of_wp_marks Tryz.func63 rfl trivial ?_ rfl
  simp only [Tryz.ntmps63, List.size_toArray, List.length_cons, List.length_nil, Nat.reduceAdd, Nat.reduceSub, Array.replicate_succ, Array.replicate_zero, List.push_toArray, List.append_toArray, List.nil_append, List.cons_append]
  refine wpIn_hide fun QQ hQQ => ?_
  gi_wp2
  have bB : Below W.heap.size W (((W.alloc (.cells #[.bool false, .string ⟨#[]⟩, .slice none 0 0, .string ⟨#[]⟩, .slice none 0 0, .slice none 0 0] 110)).alloc (.cells #[.pointer (some ⟨W.heap.size, 0, none⟩)] 106))) := ((Below.refl _ W).alloc (Nat.le_refl _) _).alloc (by simp) _
  have z0 : (((W.alloc (.cells #[.bool false, .string ⟨#[]⟩, .slice none 0 0, .string ⟨#[]⟩, .slice none 0 0, .slice none 0 0] 110)).alloc (.cells #[.pointer (some ⟨W.heap.size, 0, none⟩)] 106))).heap.size = W.heap.size + 2 := by simp
  have n0 : (((W.alloc (.cells #[.bool false, .string ⟨#[]⟩, .slice none 0 0, .string ⟨#[]⟩, .slice none 0 0, .slice none 0 0] 110)).alloc (.cells #[.pointer (some ⟨W.heap.size, 0, none⟩)] 106))).heap[W.heap.size]? = some (nodeO (.bool false) (.string ⟨#[]⟩) (.slice none 0 0) (.string ⟨#[]⟩) (.slice none 0 0) (.slice none 0 0)) := (Below.heap_alloc _ _ _ (by simp)).trans (heap_new rfl)
  have n1 : (((W.alloc (.cells #[.bool false, .string ⟨#[]⟩, .slice none 0 0, .string ⟨#[]⟩, .slice none 0 0, .slice none 0 0] 110)).alloc (.cells #[.pointer (some ⟨W.heap.size, 0, none⟩)] 106))).heap[W.heap.size + 1]? = some (.cells #[.pointer (some ⟨W.heap.size, 0, none⟩)] 106 (0, 0)) := heap_new (by simp)
  generalize ((W.alloc (.cells #[.bool false, .string ⟨#[]⟩, .slice none 0 0, .string ⟨#[]⟩, .slice none 0 0, .slice none 0 0] 110)).alloc (.cells #[.pointer (some ⟨W.heap.size, 0, none⟩)] 106)) = w0 at *
  have d0 := (bB.cell (p := ⟨bl, o, none⟩) hlt).trans c0
  have d1 := (bB.cell (p := ⟨bl, o + 1, none⟩) hlt).trans c1
  have hlt2 : bl < w0.heap.size := by omega
  have z0h := Lib.hid z0
  clear z0
  refine wpIn_flow (r := none) (fun k => ([1, 1, 1, 1, 1, 1, 1, 1, 1, 1, 1, 1, 1] : List Nat).getD k 1) (Below (w0.heap.size)) _ (Below.drew (Below.refl _ _)) (by kernel_rfl) (by kernel_rfl) ?_
  iterate 11 ((refine flow_quiet rfl rfl (fun K hK => ?_); apply Exists.intro; apply And.intro; (focus (intro w' hw'; have hc := (bcell hw').1; go_simp; (try go_bits); all_goals (first | exact rfl | exact ⟨rfl, hw'⟩))); go_simp; (try go_bits); refine hK _ ?_; clear hK K))
  first | (refine flow_quiet rfl rfl (fun K hK => ?_); apply Exists.intro; apply And.intro; (focus (intro w' hw'; have hc := (bcell hw').1; go_simp; (try go_bits); all_goals (go_at_call 82; with_reducible refine (cC _).mono ?_; rintro e w2 ⟨rfl, hb⟩; exact ⟨rfl, hw'.trans (hb.mono (below_le hw' (by simp)))⟩))); go_simp; (try go_bits); refine hK _ ?_; clear hK K) | (refine flow_quiet rfl rfl (fun K hK => ?_); apply Exists.intro; apply And.intro; (focus (intro w' hw'; have hc := (bcell hw').1; go_simp; (try go_bits); all_goals (go_at_call 82; refine (cC _).mono ?_; rintro e w2 ⟨rfl, hb⟩; exact ⟨rfl, hw'.trans (hb.mono (below_le hw' (by simp)))⟩))); go_simp; (try go_bits); refine hK _ ?_; clear hK K)
  (refine flow_quiet rfl rfl (fun K hK => ?_); apply Exists.intro; apply And.intro; (focus (intro w' hw'; have hc := (bcell hw').1; go_simp; (try go_bits); all_goals (first | exact rfl | exact ⟨rfl, hw'⟩))); go_simp; (try go_bits); refine hK _ ?_; clear hK K)
  refine flow_nil ?_
  intro w' hw'
  have z0 : w0.heap.size = W.heap.size + 2 := z0h
  gi_wp2
  have e0 := (hw'.cell (p := ⟨bl, o, none⟩) hlt2).trans d0
  have e1 := (hw'.cell (p := ⟨bl, o + 1, none⟩) hlt2).trans d1
  have m0 := (hw'.block W.heap.size (by omega)).trans n0
  have m1 := (hw'.block (W.heap.size + 1) (by omega)).trans n1
  have mp := Lib.cell_of_heap m1 0
  simp only [List.getElem?_toArray, List.getElem?_cons_zero] at mp
  have z1 := hw'.size
  have bW : Below W.heap.size W w' := bB.trans (hw'.mono (by omega))
  clear c0 c1 d0 d1
  obtain ⟨k, hk⟩ : ∃ k, k = W.heap.size := ⟨_, rfl⟩
  have cI := fun w => formI_any true x.1 hl2 (by omega) w
  have cT := fun w => Text_any (bsS x.2) w
  rw [← hk] at m0 m1 mp
  simp only [← hk]
  have hbk : bl < k := by omega
  have hk1 : k + 1 < w'.heap.size := by omega
  have hbw : bl < w'.heap.size := by omega
  replace hk := Lib.hid hk
  refine wpIn_flowW (r := none) (fun k => ([0, 1, 1, 1, 1, 1, 2, 0, 0, 0, 0, 2, 2, 2, 1, 1, 2] : List Nat).getD k 1) (fun i j => ([(0, 6), (0, 11), (0, 12), (0, 13), (6, 0), (6, 7), (6, 8), (6, 9), (6, 10), (7, 6), (8, 6), (9, 6), (10, 6), (11, 0), (12, 0), (13, 0)] : List (Nat × Nat)).contains (i, j)) (gwR w' k (nodeO (.bool false) (.string ⟨#[]⟩) (.slice none 0 0) (.string ⟨#[]⟩) (.slice none 0 0) (.slice none 0 0)) (fun g => nodeO (.bool true) (.string ⟨#[]⟩) (.slice (some ⟨g, 0, none⟩) 2 2) (.string ⟨#[]⟩) (.slice none 0 0) (.slice none 0 0)) #[.bool false, .string (bsS (form true x.1)), .slice none 0 0, .bool false, .string (bsS x.2), .slice none 0 0]) (g1T (.agg #[.bool false, .string (bsS (form true x.1)), .slice none 0 0]) (.agg #[.bool false, .string (bsS x.2), .slice none 0 0])) (g1V k bl o c x.1 x.2) ((0, 0)) (⟨Fr.drew (Fr.refl _ _), m0, fun h => (by cases h)⟩) (by kernel_rfl) (by intro i j hu hi hj; have hu : (i, j) ∈ ([(0, 6), (0, 11), (0, 12), (0, 13), (6, 0), (6, 7), (6, 8), (6, 9), (6, 10), (7, 6), (8, 6), (9, 6), (10, 6), (11, 0), (12, 0), (13, 0)] : List (Nat × Nat)) := mem_un hu; simp only [List.mem_cons, Prod.mk.injEq, List.not_mem_nil, or_false] at hu; rcases hu with ⟨rfl, rfl⟩ | ⟨rfl, rfl⟩ | ⟨rfl, rfl⟩ | ⟨rfl, rfl⟩ | ⟨rfl, rfl⟩ | ⟨rfl, rfl⟩ | ⟨rfl, rfl⟩ | ⟨rfl, rfl⟩ | ⟨rfl, rfl⟩ | ⟨rfl, rfl⟩ | ⟨rfl, rfl⟩ | ⟨rfl, rfl⟩ | ⟨rfl, rfl⟩ | ⟨rfl, rfl⟩ | ⟨rfl, rfl⟩ | ⟨rfl, rfl⟩ <;> first | exact absurd hi (by decide) | exact absurd hj (by decide) | (intro s u s1 v s2 h1 h2; obtain ⟨rfl, rfl⟩ := h1; obtain ⟨rfl, rfl⟩ := h2; exact ⟨_, ⟨rfl, rfl⟩, ⟨rfl, rfl⟩⟩)) (by intro i j hu hi hj; have hu : (i, j) ∈ ([(0, 6), (0, 11), (0, 12), (0, 13), (6, 0), (6, 7), (6, 8), (6, 9), (6, 10), (7, 6), (8, 6), (9, 6), (10, 6), (11, 0), (12, 0), (13, 0)] : List (Nat × Nat)) := mem_un hu; simp only [List.mem_cons, Prod.mk.injEq, List.not_mem_nil, or_false] at hu; rcases hu with ⟨rfl, rfl⟩ | ⟨rfl, rfl⟩ | ⟨rfl, rfl⟩ | ⟨rfl, rfl⟩ | ⟨rfl, rfl⟩ | ⟨rfl, rfl⟩ | ⟨rfl, rfl⟩ | ⟨rfl, rfl⟩ | ⟨rfl, rfl⟩ | ⟨rfl, rfl⟩ | ⟨rfl, rfl⟩ | ⟨rfl, rfl⟩ | ⟨rfl, rfl⟩ | ⟨rfl, rfl⟩ | ⟨rfl, rfl⟩ | ⟨rfl, rfl⟩ <;> first | exact absurd hi (by decide) | exact absurd hj (by decide) | (intro s u s1 v s2 h1 h2; obtain ⟨rfl, rfl⟩ := h2; exact ⟨_, _, ⟨rfl, rfl⟩⟩)) (by intro i j hu hi hj; have hu : (i, j) ∈ ([(0, 6), (0, 11), (0, 12), (0, 13), (6, 0), (6, 7), (6, 8), (6, 9), (6, 10), (7, 6), (8, 6), (9, 6), (10, 6), (11, 0), (12, 0), (13, 0)] : List (Nat × Nat)) := mem_un hu; simp only [List.mem_cons, Prod.mk.injEq, List.not_mem_nil, or_false] at hu; rcases hu with ⟨rfl, rfl⟩ | ⟨rfl, rfl⟩ | ⟨rfl, rfl⟩ | ⟨rfl, rfl⟩ | ⟨rfl, rfl⟩ | ⟨rfl, rfl⟩ | ⟨rfl, rfl⟩ | ⟨rfl, rfl⟩ | ⟨rfl, rfl⟩ | ⟨rfl, rfl⟩ | ⟨rfl, rfl⟩ | ⟨rfl, rfl⟩ | ⟨rfl, rfl⟩ | ⟨rfl, rfl⟩ | ⟨rfl, rfl⟩ | ⟨rfl, rfl⟩ <;> first | exact absurd hi (by decide) | exact absurd hj (by decide) | (intro s v s1 h1; rfl)) (by kernel_rfl) ?_
  (refine flowW_late (fun _ => True) rfl rfl trivial (fun _ _ _ _ _ _ _ => Iff.rfl) (fun s0 w' hE hR => ?_) (fun K hK => ?_); (focus (have p0 := hR.fr.cell mp (by omega) (by omega); have p1 := hR.fr.cell e0 (by omega) (by omega); have p2 := hR.fr.cell e1 (by omega) (by omega); clear hR; go_simp; (try go_bits); first | done | exact rfl | (cases hE; rfl))); (try simp only [g1V]); go_simp; (try go_bits); refine hK _ ?_; clear hK K)
  iterate 5 ((refine flowW_readE rfl rfl (fun K hK => ?_); apply Exists.intro; apply And.intro; (focus (intro w' hR; have p0 := hR.fr.cell mp (by omega) (by omega); have p1 := hR.fr.cell e0 (by omega) (by omega); have p2 := hR.fr.cell e1 (by omega) (by omega); clear hR; go_simp; (try go_bits); exact rfl)); go_simp; (try go_bits); refine hK _ ?_; clear hK K))
  refine flowW_step (fun _ => True) (by decide) rfl trivial (by intro j hu hj s v s1 hT; have hu : (6, j) ∈ ([(0, 6), (0, 11), (0, 12), (0, 13), (6, 0), (6, 7), (6, 8), (6, 9), (6, 10), (7, 6), (8, 6), (9, 6), (10, 6), (11, 0), (12, 0), (13, 0)] : List (Nat × Nat)) := mem_un hu; simp only [List.mem_cons, Prod.mk.injEq, List.not_mem_nil, or_false, Nat.reduceEqDiff, false_and, true_and, false_or] at hu; (try (rcases hu with rfl | rfl | rfl | rfl | rfl)) <;> first | exact absurd hj (by decide) | (obtain ⟨rfl, rfl⟩ := hT; exact Iff.rfl)) ⟨_, _, rfl, rfl⟩ (fun s0 w' hE hR => ?_) (fun K hK v s2 hs2 => ?_)
  focus
    go_simp
    exact (cI w').mono (by rintro e w2 ⟨rfl, hb⟩; exact ⟨_, rfl, s0.1, s0.2, ⟨rfl, rfl⟩, hR.below hb⟩)
  obtain ⟨rfl, rfl⟩ := hs2
  (go_simp; refine hK _ _ ?_; clear hK K)
  iterate 4 ((refine flowW_late (fun _ => True) rfl rfl trivial (fun _ _ _ _ _ _ _ => Iff.rfl) (fun s0 w' hE hR => ?_) (fun K hK => ?_); (focus (have p0 := hR.fr.cell mp (by omega) (by omega); have p1 := hR.fr.cell e0 (by omega) (by omega); have p2 := hR.fr.cell e1 (by omega) (by omega); clear hR; go_simp; (try go_bits); first | done | exact rfl | (cases hE; rfl))); (try simp only [g1V]); go_simp; (try go_bits); refine hK _ ?_; clear hK K))
  refine flowW_step (fun _ => True) (by decide) rfl trivial (by intro j hu hj s v s1 hT; have hu : (11, j) ∈ ([(0, 6), (0, 11), (0, 12), (0, 13), (6, 0), (6, 7), (6, 8), (6, 9), (6, 10), (7, 6), (8, 6), (9, 6), (10, 6), (11, 0), (12, 0), (13, 0)] : List (Nat × Nat)) := mem_un hu; simp only [List.mem_cons, Prod.mk.injEq, List.not_mem_nil, or_false, Nat.reduceEqDiff, false_and, true_and, false_or] at hu; (try (rcases hu with rfl)) <;> first | exact absurd hj (by decide) | (obtain ⟨rfl, rfl⟩ := hT; exact Iff.rfl)) ⟨_, _, rfl, rfl⟩ (fun s0 w' hE hR => ?_) (fun K hK v s2 hs2 => ?_)
  focus
    go_simp
    exact (cT w').mono (by rintro e w2 ⟨rfl, hb⟩; exact ⟨_, rfl, s0.1, s0.2, ⟨rfl, rfl⟩, hR.below hb⟩)
  obtain ⟨rfl, rfl⟩ := hs2
  (go_simp; refine hK _ _ ?_; clear hK K)
  refine flowW_step (fun σ => σ.1 = 0) (by decide) rfl rfl (by intro j hu hj s v s1 hT; have hu : (12, j) ∈ ([(0, 6), (0, 11), (0, 12), (0, 13), (6, 0), (6, 7), (6, 8), (6, 9), (6, 10), (7, 6), (8, 6), (9, 6), (10, 6), (11, 0), (12, 0), (13, 0)] : List (Nat × Nat)) := mem_un hu; simp only [List.mem_cons, Prod.mk.injEq, List.not_mem_nil, or_false, Nat.reduceEqDiff, false_and, true_and, false_or] at hu; (try (rcases hu with rfl)) <;> first | exact absurd hj (by decide) | (obtain ⟨rfl, rfl⟩ := hT; exact Iff.rfl)) ⟨_, _, 0, rfl, rfl⟩ (fun s0 w' hE hR => ?_) (fun K hK v s2 hs2 => ?_)
  focus
    go_simp
    exact ⟨_, _, ⟨_, rfl, rfl⟩, hR.lay (by omega)⟩
  obtain ⟨gz, rfl, rfl⟩ := hs2
  (go_simp; refine hK _ _ ?_; clear hK K)
  refine flowW_step (fun σ => σ = (1, gz)) (by decide) rfl rfl (by intro j hu hj s v s1 hT; have hu : (13, j) ∈ ([(0, 6), (0, 11), (0, 12), (0, 13), (6, 0), (6, 7), (6, 8), (6, 9), (6, 10), (7, 6), (8, 6), (9, 6), (10, 6), (11, 0), (12, 0), (13, 0)] : List (Nat × Nat)) := mem_un hu; simp only [List.mem_cons, Prod.mk.injEq, List.not_mem_nil, or_false, Nat.reduceEqDiff, false_and, true_and, false_or] at hu; (try (rcases hu with rfl)) <;> first | exact absurd hj (by decide) | (obtain ⟨rfl, rfl⟩ := hT; exact Iff.rfl)) ⟨_, _, rfl, rfl⟩ (fun s0 w' hE hR => ?_) (fun K hK v s2 hs2 => ?_)
  focus
    subst hE
    go_simp
    exact (List_any (some ⟨gz, 0, none⟩) 2 2 w').mono (by rintro e w2 ⟨rfl, hb⟩; exact ⟨_, rfl, 1, gz, ⟨rfl, rfl⟩, hR.below hb⟩)
  obtain ⟨rfl, rfl⟩ := hs2
  (go_simp; refine hK _ _ ?_; clear hK K)
  iterate 2 ((refine flowW_readE rfl rfl (fun K hK => ?_); apply Exists.intro; apply And.intro; (focus (intro w' hR; have p0 := hR.fr.cell mp (by omega) (by omega); have p1 := hR.fr.cell e0 (by omega) (by omega); have p2 := hR.fr.cell e1 (by omega) (by omega); clear hR; go_simp; (try go_bits); exact rfl)); go_simp; (try go_bits); refine hK _ ?_; clear hK K))
  refine flowW_step (fun σ => σ = (1, gz)) (by decide) rfl rfl (by intro j hu; exact absurd (mem_un (l := ([(0, 6), (0, 11), (0, 12), (0, 13), (6, 0), (6, 7), (6, 8), (6, 9), (6, 10), (7, 6), (8, 6), (9, 6), (10, 6), (11, 0), (12, 0), (13, 0)] : List (Nat × Nat))) hu) (by simp)) ⟨_, _, rfl, rfl⟩ (fun s0 w' hE hR => ?_) (fun K hK v s2 hs2 => ?_)
  focus
    subst hE
    have hnd := hR.node1 (Nat.le_refl _)
    obtain ⟨_, qf⟩ := nodeO_cells hnd
    have f0 := qf 0
    have f1 := qf 1
    have f2 := qf 2
    clear qf
    clear hnd
    go_simp
    exact ⟨_, _, ⟨rfl, rfl⟩, hR.put (by omega) rfl⟩
  obtain ⟨rfl, rfl⟩ := hs2
  (go_simp; refine hK _ _ ?_; clear hK K)
  refine flowW_nil ?_
  intro w3 hR
  have nd3 := hR.node
  have f3 := hR.fr
  have h8 : ok n (.leaf x.1 x.2) := ⟨hl1, hl2, hl3, hl4⟩
  have ix3 : itF (fun g => ¬ g = k ∧ W.heap.size ≤ g) w3 (item (.leaf x.1 x.2)) (.agg #[.bool true, .string ⟨#[]⟩, .slice (some ⟨gz, 0, none⟩) 2 2]) := by
    obtain ⟨q1, q2⟩ := hR.arr (by decide : 1 ≤ 2)
    exact itF_arr (F := fun _ => False) (l := [.text (form true x.1), .text x.2]) q2 ⟨_, _, _, _, rfl, rfl, _, _, _, _, rfl, rfl, rfl⟩ (fun _ h => h.elim) (by have q3 : w'.heap.size ≤ gz := q1; have kW : k = W.heap.size := hk; exact ⟨by omega, by omega⟩) (show 2 ≤ maxLen by decide)
  have hgz : w'.heap.size ≤ gz := (hR.arr (by decide : 1 ≤ 2)).1
  rw [if_neg (by decide : ¬ (2 ≤ 1))] at nd3
  have b3 := f3.cell mp (by omega) (by omega)
  have hk3 : k + 1 < w3.heap.size := by have := f3.size; omega
  clear hR mp m1 m0 e0 e1 cI cT
  gi_wp2
  refine wpIn_flowU (r := none) (fun k => ([0, 1, 1, 1, 1, 2, 1, 1, 0, 1, 1, 2] : List Nat).getD k 1) (stR w3 k (nodeO (.bool true) (.string ⟨#[]⟩) (.slice (some ⟨gz, 0, none⟩) 2 2) (.string ⟨#[]⟩) (.slice none 0 0) (.slice none 0 0)) (nodeO (.bool true) (.string ⟨#[]⟩) (.slice (some ⟨gz, 0, none⟩) 2 2) (.string (bsS (enc (item (.leaf x.1 x.2))))) (.slice none 0 0) (.slice none 0 0))) (fun _ => True) (false) (⟨Fr.drew (Fr.refl _ _), nd3⟩) trivial (by kernel_rfl) (by kernel_rfl) ?_
  (refine flowU_lateE rfl rfl (fun K hK => ?_); apply Exists.intro; apply And.intro; (focus (intro s0 w' hC hR; have p0 := hR.fr.cell b3 (by omega) hk3; (try (have hnow := hR.now; simp only [Bool.false_eq_true, if_false] at hnow; obtain ⟨⟨n0, n1, n2, n3⟩, _⟩ := nodeO_cells hnow; clear hnow)); clear hR; go_simp; (try go_bits); exact rfl)); go_simp; (try go_bits); refine hK _ ?_; clear hK K)
  iterate 4 ((refine flowU_readE rfl rfl (fun K hK => ?_); apply Exists.intro; apply And.intro; (focus (intro w' hR; have p0 := hR.fr.cell b3 (by omega) hk3; (try (have hnow := hR.now; simp only [Bool.false_eq_true, if_false] at hnow; obtain ⟨⟨n0, n1, n2, n3⟩, _⟩ := nodeO_cells hnow; clear hnow)); clear hR; go_simp; (try go_bits); exact rfl)); go_simp; (try go_bits); refine hK _ ?_; clear hK K))
  refine flowU_step (fun v s => v = .tuple #[.string (bsS (enc (item (.leaf x.1 x.2)))), .int .i64 0] ∧ s = false) (by decide) rfl ⟨_, _, rfl, rfl⟩ (fun w' hR => ?_) (fun _ _ _ _ _ => trivial) (fun K hK v s2 hs2 => ?_)
  focus
    have hnow := hR.now
    simp only [Bool.false_eq_true, if_false] at hnow
    have hfr := hR.fr
    have cE := Encode_any (item (.leaf x.1 x.2)) (Nat.lt_of_le_of_lt (dep_item h8) (by decide)) (Nat.le_trans (item_le hn h8) (by decide)) _ w' (ix3.to (F' := fun _ => True) fun g hg hc => ⟨trivial, hfr.block g hc.lt hg.1⟩).v
    clear hR
    go_simp
    exact cE.mono (by rintro e w4 ⟨rfl, hb⟩; exact ⟨_, rfl, rfl, ⟨hfr.below hb, (hb.block k (Array.getElem?_eq_some_iff.1 hnow).1).trans hnow⟩⟩)
  obtain ⟨rfl, rfl⟩ := hs2
  (go_simp; refine hK _ _ ?_; clear hK K)
  iterate 2 ((refine flowU_readE rfl rfl (fun K hK => ?_); apply Exists.intro; apply And.intro; (focus (intro w' hR; have p0 := hR.fr.cell b3 (by omega) hk3; (try (have hnow := hR.now; simp only [Bool.false_eq_true, if_false] at hnow; obtain ⟨⟨n0, n1, n2, n3⟩, _⟩ := nodeO_cells hnow; clear hnow)); clear hR; go_simp; (try go_bits); exact rfl)); go_simp; (try go_bits); refine hK _ ?_; clear hK K))
  (refine flowU_lateE rfl rfl (fun K hK => ?_); apply Exists.intro; apply And.intro; (focus (intro s0 w' hC hR; have p0 := hR.fr.cell b3 (by omega) hk3; (try (have hnow := hR.now; simp only [Bool.false_eq_true, if_false] at hnow; obtain ⟨⟨n0, n1, n2, n3⟩, _⟩ := nodeO_cells hnow; clear hnow)); clear hR; go_simp; (try go_bits); exact rfl)); go_simp; (try go_bits); refine hK _ ?_; clear hK K)
  iterate 2 ((refine flowU_readE rfl rfl (fun K hK => ?_); apply Exists.intro; apply And.intro; (focus (intro w' hR; have p0 := hR.fr.cell b3 (by omega) hk3; (try (have hnow := hR.now; simp only [Bool.false_eq_true, if_false] at hnow; obtain ⟨⟨n0, n1, n2, n3⟩, _⟩ := nodeO_cells hnow; clear hnow)); clear hR; go_simp; (try go_bits); exact rfl)); go_simp; (try go_bits); refine hK _ ?_; clear hK K))
  refine flowU_step (fun v s => v = undef ∧ s = true) (by decide) rfl ⟨_, _, rfl, rfl⟩ (fun w' hR => ?_) (fun _ _ _ _ _ => trivial) (fun K hK v s2 hs2 => ?_)
  focus
    have hnow := hR.now
    simp only [Bool.false_eq_true, if_false] at hnow
    have hfr := hR.fr
    obtain ⟨⟨_, _, _, n3⟩, qf⟩ := nodeO_cells hnow
    have f3 := qf 3
    clear qf
    have hput := nodeO_set3 hnow (.string (bsS (enc (item (.leaf x.1 x.2)))))
    clear hR hnow
    go_simp
    exact ⟨Fr.setCell (T := fun q => q = k) hfr (.inl rfl) _, hput⟩
  obtain ⟨rfl, rfl⟩ := hs2
  (go_simp; refine hK _ _ ?_; clear hK K)
  refine flowU_nil ?_
  intro w5 hR5
  have nd5 := hR5.now
  rw [if_pos rfl] at nd5
  have f5 := hR5.fr
  clear hR5 bB hw' n0 n1 nd3
  have b5 := f5.cell b3 (by omega) hk3
  have kW : W.heap.size ≤ k := Nat.le_of_eq (Eq.symm hk)
  have B5 : Below W.heap.size W w5 := fr_below (fr_below bW f3 kW (by omega)) f5 kW (by have := f3.size; omega)
  have ix5 := ix3.to (F' := fun g => W.heap.size ≤ g) (W' := w5) fun g hg hc => ⟨hg.2, f5.block g hc.lt hg.1⟩
  gi_wp2
  refine hQQ.out _ _ _ ?_
  exact ⟨_, (by simp only [results, Tryz.results63]; go_simp; try rfl), k, rfl, ⟨.slice none 0 0, ⟨k, _, _, _, .slice none 0 0, ⟨rfl, kW⟩, nd5, ix5, rowF_nil _ _⟩, rowF_nil _ _⟩, B5⟩
end Go.Proofs.YtijidnhaijdfaaaGreatDoor

/- The node of leaves that share what is ahead: grow. Conditions: leaves in order, paths of one length. -/
namespace Go.Proofs.YtijidnhaijdfaaaGreatDoor
open Go.RowKit
attribute [local go_sem] leftBy leaves Oper.semAt_some
set_option linter.unusedSimpArgs false
set_option linter.unusedVariables false

structure ExS where
  st : Nat
  u : Value
  q : Nat
  le : Value
  ne : Value
  b : Value
  t : Value
  s : Value
  g : Nat
/-- Where the region stands that lays an extension: st counts what is done. -/
structure exR (W1 : World) (k : Nat) (p : Bs) (c : Nd) (M : List Lf) (fo : Value) (σ : ExS) (w' : World) : Prop where
  fr : Fr (fun g => g = k) W1 w'
  node : w'.heap[k]? = some (nodeO (.bool (decide (5 ≤ σ.st))) (.string ⟨#[]⟩) (if 5 ≤ σ.st then .slice (some ⟨σ.g, 0, none⟩) 2 2 else .slice none 0 0) (.string ⟨#[]⟩) (if 3 ≤ σ.st then σ.le else .slice none 0 0) (if 3 ≤ σ.st then σ.ne else .slice none 0 0))
  lv : σ.st = 1 → lvF (fun g => W1.heap.size ≤ g) w' σ.u M
  nd : 2 ≤ σ.st → ndF (fun g => W1.heap.size ≤ g) w' c (.pointer (some ⟨σ.q, 0, none⟩))
  le : 3 ≤ σ.st → rowF (fun g => W1.heap.size ≤ g) w' σ.le [.string (bsS p)]
  ne : 3 ≤ σ.st → rowF (fun g => W1.heap.size ≤ g) w' σ.ne [.pointer (some ⟨σ.q, 0, none⟩)]
  it : 3 ≤ σ.st → itF (fun g => W1.heap.size ≤ g) w' (refI (item c)) (.agg #[σ.b, σ.t, σ.s])
  arr : 4 ≤ σ.st → W1.heap.size ≤ σ.g ∧ w'.heap[σ.g]? = some (.cells #[.bool false, fo, .slice none 0 0, σ.b, σ.t, σ.s] 51 (0, 0))
theorem exR.below {W1 w' w2 : World} {k : Nat} {p : Bs} {c : Nd} {M : List Lf} {fo : Value} {σ : ExS} (h : exR W1 k p c M fo σ w') (hb : Below w'.heap.size w' w2) : exR W1 k p c M fo σ w2 :=
  ⟨h.fr.below hb, (hb.block k (Array.getElem?_eq_some_iff.1 h.node).1).trans h.node, fun e => (h.lv e).to fun g hg hc => ⟨hg, hb.block g hc.lt⟩, fun e => (h.nd e).to fun g hg hc => ⟨hg, hb.block g hc.lt⟩, fun e => (h.le e).to fun g hg hc => ⟨hg, hb.block g hc.lt⟩,
    fun e => (h.ne e).to fun g hg hc => ⟨hg, hb.block g hc.lt⟩, fun e => (h.it e).to fun g hg hc => ⟨hg, hb.block g hc.lt⟩, fun e => ⟨(h.arr e).1, (hb.block _ (Array.getElem?_eq_some_iff.1 (h.arr e).2).1).trans (h.arr e).2⟩⟩
def ex0 : ExS := ⟨0, undef, 0, undef, undef, undef, undef, undef, 0⟩
section
variable {W1 w' w2 : World} {k : Nat} {p : Bs} {c : Nd} {M : List Lf} {fo u le ne b t s : Value} {q g : Nat}
theorem exR.s1 (h : exR W1 k p c M fo ex0 w') (hb : Below w'.heap.size w' w2) (hu : lvF (fun g => w'.heap.size ≤ g) w2 u M) : exR W1 k p c M fo { ex0 with st := 1, u := u } w2 :=
  ⟨h.fr.below hb, (h.below hb).node, fun _ => hu.to fun g hg _ => ⟨Nat.le_trans h.fr.size hg, rfl⟩, fun e => absurd e (by decide : ¬ 2 ≤ 1), fun e => absurd e (by decide : ¬ 3 ≤ 1), fun e => absurd e (by decide : ¬ 3 ≤ 1), fun e => absurd e (by decide : ¬ 3 ≤ 1), fun e => absurd e (by decide : ¬ 4 ≤ 1)⟩
theorem exR.s2 (h : exR W1 k p c M fo { ex0 with st := 1, u := u } w') (hb : Below w'.heap.size w' w2) (hq : ndF (fun g => w'.heap.size ≤ g) w2 c (.pointer (some ⟨q, 0, none⟩))) : exR W1 k p c M fo { ex0 with st := 2, q := q } w2 :=
  ⟨h.fr.below hb, (h.below hb).node, fun e => absurd e (by decide : ¬ 2 = 1), fun _ => hq.to fun g hg _ => ⟨Nat.le_trans h.fr.size hg, rfl⟩, fun e => absurd e (by decide : ¬ 3 ≤ 2), fun e => absurd e (by decide : ¬ 3 ≤ 2), fun e => absurd e (by decide : ¬ 3 ≤ 2), fun e => absurd e (by decide : ¬ 4 ≤ 2)⟩
theorem exR.s3 (h : exR W1 k p c M fo { ex0 with st := 2, q := q } w') (hk3 : 3 ≤ k) (hk : k < W1.heap.size) (hlen : (enc (item c)).length ≤ 100000) (hT : KT w') :
    Calls Tryz.prog 83 #[.pointer (some ⟨k, 0, none⟩), .string (bsS p), .pointer (some ⟨q, 0, none⟩)] w' fun e w2 => ∃ b t s, e = .returned (.agg #[b, t, s]) ∧ ∃ le ne, exR W1 k p c M fo { ex0 with st := 3, q := q, le := le, ne := ne, b := b, t := t, s := s } w2 := by
  have hfr := h.fr
  have hsz := hfr.size
  obtain ⟨ney, hnd⟩ := (h.nd (Nat.le_refl 2)).node
  refine (refer_any (fun g => W1.heap.size ≤ g) w' k (k + 1) _ _ _ _ _ _ 0 [] [] p q (item c) (leads c) ney hk3 (Nat.lt_succ_self k) (by omega) (Nat.zero_le _) h.node (World.ownsRow_nil _ _ _ _) (World.ownsRow_nil _ _ _ _) (fun g h => by cases h) hnd (fun g hg hh => ?_) hlen hT).mono ?_
  · rcases hh with (hh | hh) | hh
    · cases hh
    · cases hh
    · omega
  · rintro e w2 ⟨v, le', ne', rfl, hit, hn2, hL, hN, hl1, hl2, -, hf⟩
    obtain ⟨a, cc, rfl, -, -⟩ := hit.form
    have hf' : Fr (fun g => g = k) w' w2 := ⟨hf.os, hf.tape, hf.output, hf.size, fun g hg hT => hf.block g hg fun hh => by
      rcases hh with (hh | hh) | hh
      · cases hh
      · cases hh
      · exact hT hh⟩
    have hown : ∀ {v : Value} {g : Nat}, (v.ownBlock = some g → (Value.slice none 0 0).ownBlock = some g ∨ w'.heap.size ≤ g) → v.ownBlock = some g → W1.heap.size ≤ g := fun h1 h2 => by
      rcases h1 h2 with h3 | h3
      · cases h3
      · omega
    refine ⟨_, _, _, rfl, le', ne', hfr.trans hf', hn2, fun e => absurd e (by decide : ¬ 3 = 1), fun _ => ?_, fun _ => ?_, fun _ => ?_, fun _ => ?_, fun e => absurd e (by decide : ¬ 4 ≤ 3)⟩
    · exact (h.nd (Nat.le_refl 2)).to fun g hg hc => ⟨hg, hf'.block g hc.lt (by omega)⟩
    · exact rowF_own (xs := [.string (bsS p)]) hL fun g => hown (hl1 g)
    · exact rowF_own (xs := [.pointer (some ⟨q, 0, none⟩)]) hN fun g => hown (hl2 g)
    · exact hit
theorem exR.s4 (h : exR W1 k p c M fo { ex0 with st := 3, q := q, le := le, ne := ne, b := b, t := t, s := s } w') : exR W1 k p c M fo { ex0 with st := 4, q := q, le := le, ne := ne, b := b, t := t, s := s, g := w'.heap.size } (w'.alloc (.cells #[.bool false, fo, .slice none 0 0, b, t, s] 51)) := by
  have hb : Below w'.heap.size w' (w'.alloc (.cells #[.bool false, fo, .slice none 0 0, b, t, s] 51)) := (Below.refl _ w').alloc (Nat.le_refl _) _
  have h2 := h.below hb
  exact ⟨h2.fr, h2.node, fun e => absurd e (by decide : ¬ 4 = 1), fun _ => h2.nd (by decide : 2 ≤ 3), fun _ => h2.le (Nat.le_refl 3), fun _ => h2.ne (Nat.le_refl 3), fun _ => h2.it (Nat.le_refl 3), fun _ => ⟨h.fr.size, heap_new rfl⟩⟩
theorem exR.s5 (h : exR W1 k p c M fo { ex0 with st := 4, q := q, le := le, ne := ne, b := b, t := t, s := s, g := g } w') (hk : k < W1.heap.size) :
    exR W1 k p c M fo { ex0 with st := 5, q := q, le := le, ne := ne, b := b, t := t, s := s, g := g } (((w'.setCell ⟨k, 0, none⟩ (.bool true)).setCell ⟨k, 1, none⟩ (.string ⟨#[]⟩)).setCell ⟨k, 2, none⟩ (.slice (some ⟨g, 0, none⟩) 2 2)) := by
  have hn : w'.heap[k]? = some (nodeO (.bool false) (.string ⟨#[]⟩) (.slice none 0 0) (.string ⟨#[]⟩) le ne) := h.node
  have hput := nodeO_set012 hn (.bool true) (.string ⟨#[]⟩) (.slice (some ⟨g, 0, none⟩) 2 2)
  have hs : ∀ g', W1.heap.size ≤ g' → (((w'.setCell ⟨k, 0, none⟩ (.bool true)).setCell ⟨k, 1, none⟩ (.string ⟨#[]⟩)).setCell ⟨k, 2, none⟩ (.slice (some ⟨g, 0, none⟩) 2 2)).heap[g']? = w'.heap[g']? := fun g' hg => by
    rw [heap_set_ne (by omega), heap_set_ne (by omega), heap_set_ne (by omega)]
  exact ⟨fr_set3 h.fr _ _ _, hput, fun e => absurd e (by decide : ¬ 5 = 1), fun _ => (h.nd (by decide : 2 ≤ 4)).to fun g' hg _ => ⟨hg, hs g' hg⟩, fun _ => (h.le (by decide : 3 ≤ 4)).to fun g' hg _ => ⟨hg, hs g' hg⟩, fun _ => (h.ne (by decide : 3 ≤ 4)).to fun g' hg _ => ⟨hg, hs g' hg⟩, fun _ => (h.it (by decide : 3 ≤ 4)).to fun g' hg _ => ⟨hg, hs g' hg⟩,
    fun _ => ⟨(h.arr (Nat.le_refl 4)).1, (hs g (h.arr (Nat.le_refl 4)).1).trans (h.arr (Nat.le_refl 4)).2⟩⟩
end
theorem nnF {nn : Nat} (h1 : 1 ≤ nn) (h : nn ≤ 200) : wrap64 ((nn : Nat) : Int) = (nn : Int) ∧ (0 : Int) ≤ (nn : Int) ∧ (nn : Int) < (nn : Int) + 1 ∧ ((nn : Nat) : Int).toNat = nn ∧ ((nn : Int) + 1 == 1) = false := by
  refine ⟨by unfold wrap64; omega, by omega, by omega, by omega, ?_⟩
  rw [beq_eq_false_iff_ne]
  omega
theorem laid2 (W : World) : Below W.heap.size W (((W.alloc (.cells #[.bool false, .string ⟨#[]⟩, .slice none 0 0, .string ⟨#[]⟩, .slice none 0 0, .slice none 0 0] 110)).alloc (.cells #[.pointer (some ⟨W.heap.size, 0, none⟩)] 106))) ∧ (((W.alloc (.cells #[.bool false, .string ⟨#[]⟩, .slice none 0 0, .string ⟨#[]⟩, .slice none 0 0, .slice none 0 0] 110)).alloc (.cells #[.pointer (some ⟨W.heap.size, 0, none⟩)] 106))).heap.size = W.heap.size + 2 ∧ (((W.alloc (.cells #[.bool false, .string ⟨#[]⟩, .slice none 0 0, .string ⟨#[]⟩, .slice none 0 0, .slice none 0 0] 110)).alloc (.cells #[.pointer (some ⟨W.heap.size, 0, none⟩)] 106))).heap[W.heap.size]? = some (nodeO (.bool false) (.string ⟨#[]⟩) (.slice none 0 0) (.string ⟨#[]⟩) (.slice none 0 0) (.slice none 0 0)) ∧ (((W.alloc (.cells #[.bool false, .string ⟨#[]⟩, .slice none 0 0, .string ⟨#[]⟩, .slice none 0 0, .slice none 0 0] 110)).alloc (.cells #[.pointer (some ⟨W.heap.size, 0, none⟩)] 106))).heap[W.heap.size + 1]? = some (.cells #[.pointer (some ⟨W.heap.size, 0, none⟩)] 106 (0, 0)) :=
  ⟨((Below.refl _ W).alloc (Nat.le_refl _) _).alloc (by simp) _, by simp, (Below.heap_alloc _ _ _ (by simp)).trans (heap_new rfl), heap_new (by simp)⟩
set_option maxRecDepth 100000 in
set_option maxHeartbeats 16000000 in
theorem grow_ext (f n nn c : Nat) (L : List Lf) (x z : Lf) (v : Value) (W : World) (hn : n ≤ 128) (hg : good n L) (hL : L.length = nn + 1) (hn1 : 1 ≤ nn) (hx : L[0]? = some x) (hz : L[nn]? = some z) (hc : common x.1 z.1 = c) (hc0 : 0 < c)
    (hsh : ∀ w ∈ L, w.1.take c = x.1.take c) (hok : ok n (.ext (x.1.take c) (grow f (tails c L)))) (hf : n < f + 1) (ih : growP f) (hL2 : L.length ≤ 200) (hv : lvF (fun _ => True) W v L) (hT : KT W) (h3 : 3 ≤ W.heap.size) :
    Calls Tryz.prog 63 #[v] W fun e w' => ∃ q, e = .returned (.pointer (some ⟨q, 0, none⟩)) ∧ ndF (fun g => W.heap.size ≤ g) w' (.ext (x.1.take c) (grow f (tails c L))) (.pointer (some ⟨q, 0, none⟩)) ∧ Below W.heap.size W w' := by
  obtain ⟨hx1, hx2, _, _⟩ := hg.1 x (List.mem_of_getElem? hx)
  obtain ⟨hz1, hz2, _, _⟩ := hg.1 z (List.mem_of_getElem? hz)
  have hvv := hv
  obtain ⟨a, cp, rfl, hcp, hcell⟩ := hv
  obtain ⟨bl, o, ⟨rfl, _⟩, c0, c1⟩ := hcell 0 x hx
  obtain ⟨bl2, o2, ⟨e2, _⟩, d0, d1⟩ := hcell nn z hz
  simp only [Option.some.injEq, Addr.mk.injEq, and_true] at e2
  obtain ⟨rfl, rfl⟩ := e2
  rw [Nat.zero_mul, Nat.add_zero] at c0 c1
  have hlt := lt_of_cell c0
  clear hcell c1 d1
  have cC := fun w => Common_any x.1 z.1 (by omega) (by omega) w
  rw [hc] at cC
  have hcl : c ≤ x.1.length := hc ▸ (common_le x.1 z.1).1
  have hcn : c ≤ n := by omega
  have hsz : (bsS x.1).size = x.1.length := bsS_size x.1
  have hlen : ∀ w ∈ L, w.1.length = n := fun w hw => (hg.1 w hw).1
  have hM : good (n - c) (tails c L) := hg.tails (x.1.take c) hsh
  have hMne : tails c L ≠ [] := by
    intro e
    have := congrArg List.length e
    simp only [tails, List.length_map, List.length_nil] at this
    omega
  have hMl : (tails c L).length ≤ 200 := by
    rw [tails, List.length_map]
    exact hL2
  have cI := fun w => formI_any false (x.1.take c) (hx2.take c) (by rw [List.length_take]; omega) w
  have cB := fun (w2 : World) (h : ∀ g, g < W.heap.size → w2.heap[g]? = W.heap[g]?) => behind_any _ L c w2 (hvv.to fun g _ hcc => ⟨trivial, h g hcc.lt⟩) (fun w hw => by rw [hlen w hw]; exact hcn) (fun w hw => by rw [hlen w hw]; omega) (by omega)
  have cG := fun (w2 : World) (u : Value) (h1 : lvF (fun _ => True) w2 u (tails c L)) (h2 : KT w2) (h4 : 3 ≤ w2.heap.size) => ih (n - c) (tails c L) u w2 (by omega) (by omega) hM hMne hMl h1 h2 h4
  have hil := Lib.hid (Nat.le_trans (item_le (by omega) (grow_spec f (n - c) (tails c L) (by omega) hM hMne).1) (by decide : 1200 ≤ 100000))
  rw [hL] at hcp cB ⊢
  obtain ⟨hw, hw0, hw1, hwn, hne1⟩ := nnF hn1 (Nat.le_of_succ_le_succ (Nat.le_trans (Nat.le_of_eq hL.symm) (Nat.le_trans hL2 (by decide : 200 ≤ 201))))
  have hcp0 : (0 : Int) < (c : Int) := Int.natCast_pos.2 hc0
  have hci := Int.ofNat_le.2 hcl
  have hci0 := Int.natCast_nonneg c
  have htk := bs_take x.1 c hcl
  have cCh := Lib.hid cC
  have cIh := Lib.hid cI
  have cBh := Lib.hid cB
  have cGh := Lib.hid cG
  have hTh := Lib.hid hT
  have hokh := Lib.hid hok
  have h3h := Lib.hid h3
  have hnh := Lib.hid hn
  clear cI cB cG hT hok h3 hn hc hx hz hsh hg ih hf hvv hL hL2 hn1 hx1 hx2 hz1 hz2 hc0 hcl hcn hlen hM hMne hMl hcp cC
  refine calls_FW (n := 9) ?_
  refine callsIn_of_wp_marks Tryz.func63 rfl trivial ?_ rfl
  simp only [Tryz.ntmps63, List.size_toArray, List.length_cons, List.length_nil, Nat.reduceAdd, Nat.reduceSub, Array.replicate_succ, Array.replicate_zero, List.push_toArray, List.append_toArray, List.nil_append, List.cons_append]
  refine wpIn_hide fun QQ hQQ => ?_
  gi_wp2
  obtain ⟨bB, z0, n0, n1⟩ := laid2 W
  generalize ((W.alloc (.cells #[.bool false, .string ⟨#[]⟩, .slice none 0 0, .string ⟨#[]⟩, .slice none 0 0, .slice none 0 0] 110)).alloc (.cells #[.pointer (some ⟨W.heap.size, 0, none⟩)] 106)) = w0 at *
  have q0 := (bB.cell (p := ⟨bl, o, none⟩) hlt).trans c0
  have q1 := (bB.cell (p := ⟨bl, o + nn * 2, none⟩) hlt).trans d0
  have hlt2 : bl < w0.heap.size := by omega
  have z0h := Lib.hid z0
  clear z0 c0 d0
  have cC := cCh.out
  refine wpIn_flow (r := none) (fun k => ([1, 1, 1, 1, 1, 1, 1, 1, 1, 1, 1, 1, 1] : List Nat).getD k 1) (Below (w0.heap.size)) _ (Below.drew (Below.refl _ _)) (by kernel_rfl) (by kernel_rfl) ?_
  iterate 11 ((refine flow_quiet rfl rfl (fun K hK => ?_); apply Exists.intro; apply And.intro; (focus (intro w' hw'; have hc := (bcell hw').1; go_simp; (try go_bits); all_goals (first | exact rfl | exact ⟨rfl, hw'⟩))); go_simp; (try go_bits); refine hK _ ?_; clear hK K))
  first | (refine flow_quiet rfl rfl (fun K hK => ?_); apply Exists.intro; apply And.intro; (focus (intro w' hw'; have hc := (bcell hw').1; go_simp; (try go_bits); all_goals (go_at_call 82; with_reducible refine (cC _).mono ?_; rintro e w2 ⟨rfl, hb⟩; exact ⟨rfl, hw'.trans (hb.mono (below_le hw' (by simp)))⟩))); go_simp; (try go_bits); refine hK _ ?_; clear hK K) | (refine flow_quiet rfl rfl (fun K hK => ?_); apply Exists.intro; apply And.intro; (focus (intro w' hw'; have hc := (bcell hw').1; go_simp; (try go_bits); all_goals (go_at_call 82; refine (cC _).mono ?_; rintro e w2 ⟨rfl, hb⟩; exact ⟨rfl, hw'.trans (hb.mono (below_le hw' (by simp)))⟩))); go_simp; (try go_bits); refine hK _ ?_; clear hK K)
  (refine flow_quiet rfl rfl (fun K hK => ?_); apply Exists.intro; apply And.intro; (focus (intro w' hw'; have hc := (bcell hw').1; go_simp; (try go_bits); all_goals (first | exact rfl | exact ⟨rfl, hw'⟩))); go_simp; (try go_bits); refine hK _ ?_; clear hK K)
  refine flow_nil ?_
  intro w' hw'
  clear cC
  have z0 : w0.heap.size = W.heap.size + 2 := z0h
  have e0 := (hw'.cell (p := ⟨bl, o, none⟩) hlt2).trans q0
  have m0 := (hw'.block W.heap.size (by omega)).trans n0
  have m1 := (hw'.block (W.heap.size + 1) (by omega)).trans n1
  have mp := Lib.cell_of_heap m1 0
  simp only [List.getElem?_toArray, List.getElem?_cons_zero] at mp
  have z1 := hw'.size
  have bW : Below W.heap.size W w' := bB.trans (hw'.mono (by omega))
  clear q0 q1 n0 n1 bB
  gi_wp2
  obtain ⟨k, hk⟩ : ∃ k, k = W.heap.size := ⟨_, rfl⟩
  rw [← hk] at m0 m1 mp
  simp only [← hk]
  have hbk : bl < k := by omega
  have hk1 : k + 1 < w'.heap.size := by omega
  have hbw : bl < w'.heap.size := by omega
  have hkA : k < w'.heap.size := by omega
  have hk3 : 3 ≤ k := by
    have := h3h.out
    omega
  have cI := cIh.out
  have hFW : ∀ w2, Fr (fun g => g = k) w' w2 → ∀ g, g < W.heap.size → w2.heap[g]? = W.heap[g]? := fun w2 h g hg => (h.block g (by omega) (by omega)).trans (bW.block g hg)
  have hFT : ∀ w2, Fr (fun g => g = k) w' w2 → KT w2 ∧ 3 ≤ w2.heap.size := fun w2 h => ⟨(hTh.out.below bW h3h.out).fr h (fun g hg => by omega), by have := h.size; omega⟩
  have cBh2 := Lib.hid fun w2 h => cBh.out w2 (hFW w2 h)
  have cGh2 : Hid (∀ w2 u, exR w' k (x.1.take c) (grow f (tails c L)) (tails c L) (.string (bsS (form false (x.1.take c)))) { ex0 with st := 1, u := u } w2 → Calls Tryz.prog 63 #[u] w2 fun e w4 => ∃ q, e = .returned (.pointer (some ⟨q, 0, none⟩)) ∧ exR w' k (x.1.take c) (grow f (tails c L)) (tails c L) (.string (bsS (form false (x.1.take c)))) { ex0 with st := 2, q := q } w4) := Lib.hid fun w2 u h =>
    (cGh.out w2 u ((h.lv rfl).to fun g _ _ => ⟨trivial, rfl⟩) (hFT w2 h.fr).1 (hFT w2 h.fr).2).mono fun e w4 ⟨q, h1, h2, h4⟩ => ⟨q, h1, h.s2 h4 h2⟩
  have cRh := Lib.hid fun w2 q (h : exR w' k (x.1.take c) (grow f (tails c L)) (tails c L) (.string (bsS (form false (x.1.take c)))) { ex0 with st := 2, q := q } w2) => h.s3 hk3 hkA hil.out (hFT w2 h.fr).1
  replace hk := Lib.hid hk
  clear cBh cGh
  refine wpIn_flowU (r := none) (fun k => ([0, 1, 1, 2, 0, 0, 0, 0, 2, 2, 2, 2, 2, 1, 1, 2] : List Nat).getD k 1) (exR w' k (x.1.take c) (grow f (tails c L)) (tails c L) (.string (bsS (form false (x.1.take c))))) (fun _ => True) (ex0) (⟨Fr.drew (Fr.refl _ _), m0, fun e => (by cases e), fun e => absurd e (by decide : ¬ 2 ≤ 0), fun e => absurd e (by decide : ¬ 3 ≤ 0), fun e => absurd e (by decide : ¬ 3 ≤ 0), fun e => absurd e (by decide : ¬ 3 ≤ 0), fun e => absurd e (by decide : ¬ 4 ≤ 0)⟩) trivial (by kernel_rfl) (by kernel_rfl) ?_
  (refine flowU_lateE rfl rfl (fun K hK => ?_); apply Exists.intro; apply And.intro; (focus (intro s0 w' hC hR; have p0 := hR.fr.cell mp (by omega) hk1; clear hR; go_simp; (try go_bits); exact rfl)); go_simp; (try go_bits); refine hK _ ?_; clear hK K)
  iterate 2 ((refine flowU_readE rfl rfl (fun K hK => ?_); apply Exists.intro; apply And.intro; (focus (intro w' hR; have p0 := hR.fr.cell mp (by omega) hk1; clear hR; go_simp; (try go_bits); exact rfl)); go_simp; (try go_bits); refine hK _ ?_; clear hK K))
  refine flowU_step (fun v s => v = .agg #[.bool false, .string (bsS (form false (x.1.take c))), .slice none 0 0] ∧ s = ex0) (by decide) rfl ⟨_, _, rfl, rfl⟩ (fun w2 hR => ?_) (fun _ _ _ _ _ => trivial) (fun K hK v s2 hs2 => ?_)
  focus
    go_simp
    exact (cI w2).mono (by rintro e w4 ⟨rfl, hb⟩; exact ⟨_, rfl, _, ⟨rfl, rfl⟩, hR.below hb⟩)
  obtain ⟨rfl, rfl⟩ := hs2
  (go_simp; refine hK _ _ ?_; clear hK K)
  iterate 4 ((refine flowU_lateE rfl rfl (fun K hK => ?_); apply Exists.intro; apply And.intro; (focus (intro s0 w' hC hR; have p0 := hR.fr.cell mp (by omega) hk1; clear hR; go_simp; (try go_bits); exact rfl)); go_simp; (try go_bits); refine hK _ ?_; clear hK K))
  refine flowU_step (fun v s => s = { ex0 with st := 1, u := v }) (by decide) rfl ⟨undef, _, rfl⟩ (fun w2 hR => ?_) (fun _ _ _ _ _ => trivial) (fun K hK v s2 hs2 => ?_)
  focus
    have cB := cBh2.out w2 hR.fr
    go_simp
    exact cB.mono (by rintro e w4 ⟨u, rfl, hu, hb⟩; exact ⟨_, rfl, hR.s1 hb hu⟩)
  obtain rfl := hs2
  (go_simp; refine hK _ _ ?_; clear hK K)
  refine flowU_step (fun v' s => ∃ q, v' = .pointer (some ⟨q, 0, none⟩) ∧ s = { ex0 with st := 2, q := q }) (by decide) rfl ⟨_, _, 0, rfl, rfl⟩ (fun w2 hR => ?_) (fun _ _ _ _ _ => trivial) (fun K hK v s2 hs2 => ?_)
  focus
    have cG := cGh2.out w2 _ hR
    go_simp
    exact cG.mono (by rintro e w4 ⟨q, rfl, h⟩; exact ⟨_, rfl, _, ⟨q, rfl, rfl⟩, h⟩)
  obtain ⟨q, rfl, rfl⟩ := hs2
  (go_simp; refine hK _ _ ?_; clear hK K)
  refine flowU_step (fun v s => ∃ b t s' le ne, v = .agg #[b, t, s'] ∧ s = { ex0 with st := 3, q := q, le := le, ne := ne, b := b, t := t, s := s' }) (by decide) rfl ⟨_, _, undef, undef, undef, undef, undef, rfl, rfl⟩ (fun w2 hR => ?_) (fun _ _ _ _ _ => trivial) (fun K hK v s2 hs2 => ?_)
  focus
    have cR := cRh.out w2 q hR
    go_simp
    exact cR.mono (by rintro e w4 ⟨b, t, s', rfl, le, ne, h⟩; exact ⟨_, rfl, _, ⟨b, t, s', rfl, le, ne, rfl⟩, h⟩)
  obtain ⟨ib, it, is, le, ne, rfl, rfl⟩ := hs2
  (go_simp; refine hK _ _ ?_; clear hK K)
  refine flowU_step (fun v s => ∃ g, v = .slice (some ⟨g, 0, none⟩) 2 2 ∧ s = { ex0 with st := 4, q := q, le := le, ne := ne, b := ib, t := it, s := is, g := g }) (by decide) rfl ⟨_, _, 0, rfl, rfl⟩ (fun w2 hR => ?_) (fun _ _ _ _ _ => trivial) (fun K hK v s2 hs2 => ?_)
  focus
    have h4 := hR.s4
    go_simp
  obtain ⟨g, rfl, rfl⟩ := hs2
  (go_simp; refine hK _ _ ?_; clear hK K)
  refine flowU_step (fun v s => v = .agg #[.bool true, .string ⟨#[]⟩, .slice (some ⟨g, 0, none⟩) 2 2] ∧ s = { ex0 with st := 4, q := q, le := le, ne := ne, b := ib, t := it, s := is, g := g }) (by decide) rfl ⟨_, _, rfl, rfl⟩ (fun w2 hR => ?_) (fun _ _ _ _ _ => trivial) (fun K hK v s2 hs2 => ?_)
  focus
    go_simp
    exact (List_any (some ⟨g, 0, none⟩) 2 2 w2).mono (by rintro e w4 ⟨rfl, hb⟩; exact ⟨_, rfl, _, ⟨rfl, rfl⟩, hR.below hb⟩)
  obtain ⟨rfl, rfl⟩ := hs2
  (go_simp; refine hK _ _ ?_; clear hK K)
  iterate 2 ((refine flowU_readE rfl rfl (fun K hK => ?_); apply Exists.intro; apply And.intro; (focus (intro w' hR; have p0 := hR.fr.cell mp (by omega) hk1; clear hR; go_simp; (try go_bits); exact rfl)); go_simp; (try go_bits); refine hK _ ?_; clear hK K))
  refine flowU_step (fun v s => v = undef ∧ s = { ex0 with st := 5, q := q, le := le, ne := ne, b := ib, t := it, s := is, g := g }) (by decide) rfl ⟨_, _, rfl, rfl⟩ (fun w2 hR => ?_) (fun _ _ _ _ _ => trivial) (fun K hK v s2 hs2 => ?_)
  focus
    have h5 := hR.s5 hkA
    have hnd : w2.heap[k]? = some (nodeO (.bool false) (.string ⟨#[]⟩) (.slice none 0 0) (.string ⟨#[]⟩) le ne) := hR.node
    obtain ⟨_, qf⟩ := nodeO_cells hnd
    have f0 := qf 0
    have f1 := qf 1
    have f2 := qf 2
    clear qf
    clear hnd hR
    go_simp
  obtain ⟨rfl, rfl⟩ := hs2
  (go_simp; refine hK _ _ ?_; clear hK K)
  refine flowU_nil ?_
  intro w3 hR
  have nd3 : w3.heap[k]? = some (nodeO (.bool true) (.string ⟨#[]⟩) (.slice (some ⟨g, 0, none⟩) 2 2) (.string ⟨#[]⟩) le ne) := hR.node
  have f3 := hR.fr
  have h8 := hokh.out
  have hN : ∀ g, w'.heap.size ≤ g → ¬ g = k ∧ W.heap.size ≤ g := fun g hg => by
    have := hk.out
    exact ⟨by omega, by omega⟩
  have ix3 : itF (fun g => ¬ g = k ∧ W.heap.size ≤ g) w3 (item (.ext (x.1.take c) (grow f (tails c L)))) (.agg #[.bool true, .string ⟨#[]⟩, .slice (some ⟨g, 0, none⟩) 2 2]) := by
    obtain ⟨q1, q2⟩ := hR.arr (by decide : 4 ≤ 5)
    exact itF_arr (F := fun g => w'.heap.size ≤ g) (l := [.text (form false (x.1.take c)), refI (item (grow f (tails c L)))]) q2 ⟨_, _, _, _, rfl, rfl, _, _, _, _, rfl, hR.it (by decide : 3 ≤ 5), rfl⟩ hN (hN g q1) (show 2 ≤ maxLen by decide)
  have le3 := (hR.le (by decide : 3 ≤ 5)).to (F' := fun g => ¬ g = k ∧ W.heap.size ≤ g) fun g hg _ => ⟨hN g hg, rfl⟩
  have ne3 := (hR.ne (by decide : 3 ≤ 5)).to (F' := fun g => ¬ g = k ∧ W.heap.size ≤ g) fun g hg _ => ⟨hN g hg, rfl⟩
  have ndc3 := (hR.nd (by decide : 2 ≤ 5)).to (F' := fun g => ¬ g = k ∧ W.heap.size ≤ g) fun g hg _ => ⟨hN g hg, rfl⟩
  have b3 := f3.cell mp (by omega) (by omega)
  have hk3' : k + 1 < w3.heap.size := by have := f3.size; omega
  have hnn := hnh.out
  clear hR mp m1 m0 e0 cI cBh2 cGh2 cRh hil hFW hFT cCh
  gi_wp2
  refine wpIn_flowU (r := none) (fun k => ([0, 1, 1, 1, 1, 2, 1, 1, 0, 1, 1, 2] : List Nat).getD k 1) (stR w3 k (nodeO (.bool true) (.string ⟨#[]⟩) (.slice (some ⟨g, 0, none⟩) 2 2) (.string ⟨#[]⟩) le ne) (nodeO (.bool true) (.string ⟨#[]⟩) (.slice (some ⟨g, 0, none⟩) 2 2) (.string (bsS (enc (item (.ext (x.1.take c) (grow f (tails c L))))))) le ne)) (fun _ => True) (false) (⟨Fr.drew (Fr.refl _ _), nd3⟩) trivial (by kernel_rfl) (by kernel_rfl) ?_
  (refine flowU_lateE rfl rfl (fun K hK => ?_); apply Exists.intro; apply And.intro; (focus (intro s0 w' hC hR; have p0 := hR.fr.cell b3 (by omega) hk3'; (try (have hnow := hR.now; simp only [Bool.false_eq_true, if_false] at hnow; obtain ⟨⟨n0, n1, n2, n3⟩, _⟩ := nodeO_cells hnow; clear hnow)); clear hR; go_simp; (try go_bits); exact rfl)); go_simp; (try go_bits); refine hK _ ?_; clear hK K)
  iterate 4 ((refine flowU_readE rfl rfl (fun K hK => ?_); apply Exists.intro; apply And.intro; (focus (intro w' hR; have p0 := hR.fr.cell b3 (by omega) hk3'; (try (have hnow := hR.now; simp only [Bool.false_eq_true, if_false] at hnow; obtain ⟨⟨n0, n1, n2, n3⟩, _⟩ := nodeO_cells hnow; clear hnow)); clear hR; go_simp; (try go_bits); exact rfl)); go_simp; (try go_bits); refine hK _ ?_; clear hK K))
  refine flowU_step (fun v s => v = .tuple #[.string (bsS (enc (item (.ext (x.1.take c) (grow f (tails c L)))))), .int .i64 0] ∧ s = false) (by decide) rfl ⟨_, _, rfl, rfl⟩ (fun w' hR => ?_) (fun _ _ _ _ _ => trivial) (fun K hK v s2 hs2 => ?_)
  focus
    have hnow := hR.now
    simp only [Bool.false_eq_true, if_false] at hnow
    have hfr := hR.fr
    have cE := Encode_any (item (.ext (x.1.take c) (grow f (tails c L)))) (Nat.lt_of_le_of_lt (dep_item h8) (by decide)) (Nat.le_trans (item_le hnn h8) (by decide)) _ w' (ix3.to (F' := fun _ => True) fun g hg hc => ⟨trivial, hfr.block g hc.lt hg.1⟩).v
    clear hR
    go_simp
    exact cE.mono (by rintro e w4 ⟨rfl, hb⟩; exact ⟨_, rfl, rfl, ⟨hfr.below hb, (hb.block k (Array.getElem?_eq_some_iff.1 hnow).1).trans hnow⟩⟩)
  obtain ⟨rfl, rfl⟩ := hs2
  (go_simp; refine hK _ _ ?_; clear hK K)
  iterate 2 ((refine flowU_readE rfl rfl (fun K hK => ?_); apply Exists.intro; apply And.intro; (focus (intro w' hR; have p0 := hR.fr.cell b3 (by omega) hk3'; (try (have hnow := hR.now; simp only [Bool.false_eq_true, if_false] at hnow; obtain ⟨⟨n0, n1, n2, n3⟩, _⟩ := nodeO_cells hnow; clear hnow)); clear hR; go_simp; (try go_bits); exact rfl)); go_simp; (try go_bits); refine hK _ ?_; clear hK K))
  (refine flowU_lateE rfl rfl (fun K hK => ?_); apply Exists.intro; apply And.intro; (focus (intro s0 w' hC hR; have p0 := hR.fr.cell b3 (by omega) hk3'; (try (have hnow := hR.now; simp only [Bool.false_eq_true, if_false] at hnow; obtain ⟨⟨n0, n1, n2, n3⟩, _⟩ := nodeO_cells hnow; clear hnow)); clear hR; go_simp; (try go_bits); exact rfl)); go_simp; (try go_bits); refine hK _ ?_; clear hK K)
  iterate 2 ((refine flowU_readE rfl rfl (fun K hK => ?_); apply Exists.intro; apply And.intro; (focus (intro w' hR; have p0 := hR.fr.cell b3 (by omega) hk3'; (try (have hnow := hR.now; simp only [Bool.false_eq_true, if_false] at hnow; obtain ⟨⟨n0, n1, n2, n3⟩, _⟩ := nodeO_cells hnow; clear hnow)); clear hR; go_simp; (try go_bits); exact rfl)); go_simp; (try go_bits); refine hK _ ?_; clear hK K))
  refine flowU_step (fun v s => v = undef ∧ s = true) (by decide) rfl ⟨_, _, rfl, rfl⟩ (fun w' hR => ?_) (fun _ _ _ _ _ => trivial) (fun K hK v s2 hs2 => ?_)
  focus
    have hnow := hR.now
    simp only [Bool.false_eq_true, if_false] at hnow
    have hfr := hR.fr
    obtain ⟨⟨_, _, _, n3⟩, qf⟩ := nodeO_cells hnow
    have f3 := qf 3
    clear qf
    have hput := nodeO_set3 hnow (.string (bsS (enc (item (.ext (x.1.take c) (grow f (tails c L)))))))
    clear hR hnow
    go_simp
    exact ⟨Fr.setCell (T := fun q => q = k) hfr (.inl rfl) _, hput⟩
  obtain ⟨rfl, rfl⟩ := hs2
  (go_simp; refine hK _ _ ?_; clear hK K)
  refine flowU_nil ?_
  intro w5 hR5
  have nd5 := hR5.now
  rw [if_pos rfl] at nd5
  have f5 := hR5.fr
  clear hR5 nd3
  have b5 := f5.cell b3 (by omega) hk3'
  have kW : W.heap.size ≤ k := Nat.le_of_eq (Eq.symm hk.out)
  have hs3 := f3.size
  have B5 : Below W.heap.size W w5 := fr_below (fr_below bW f3 kW (by omega)) f5 kW (by omega)
  have hto : ∀ g, (¬ g = k ∧ W.heap.size ≤ g) → cellsAt w3 g → W.heap.size ≤ g ∧ w5.heap[g]? = w3.heap[g]? := fun g hg hc => ⟨hg.2, f5.block g hc.lt hg.1⟩
  gi_wp2
  refine hQQ.out _ _ _ ?_
  exact ⟨_, (by simp only [results, Tryz.results63]; go_simp; try rfl), k, rfl, by rw [ndF]; exact ⟨ne, .pointer (some ⟨q, 0, none⟩), ⟨k, _, _, _, le, ⟨rfl, kW⟩, nd5, ix3.to hto, le3.to hto⟩, ne3.to hto, ndc3.to hto⟩, B5⟩
end Go.Proofs.YtijidnhaijdfaaaGreatDoor

/- The node of leaves that share nothing ahead: grow. Conditions: leaves in order, paths of one length. -/
namespace Go.Proofs.YtijidnhaijdfaaaGreatDoor
open Go.RowKit
attribute [local go_sem] leftBy leaves Oper.semAt_some
set_option linter.unusedSimpArgs false
set_option linter.unusedVariables false

theorem cellsF.set {F : Nat → Prop} {W : World} {y : It} {b t s : Value} (hy : itF F W y (.agg #[b, t, s])) : ∀ {l : List It} {xs : List Value} (i : Nat), cellsF F W l xs → i < l.length → cellsF F W (l.set i y) (((xs.set (i * 3) b).set (i * 3 + 1) t).set (i * 3 + 2) s)
  | [], xs, i, h, hi => by simp at hi
  | x :: l, xs, i, h, hi => by
    rw [cellsF] at h
    obtain ⟨b0, t0, s0, r, rfl, h1, h2⟩ := h
    cases i with
    | zero =>
      rw [List.set_cons_zero, cellsF]
      exact ⟨b, t, s, r, rfl, hy, h2⟩
    | succ i =>
      rw [List.set_cons_succ, cellsF]
      refine ⟨b0, t0, s0, _, ?_, h1, cellsF.set hy i h2 (by simpa using hi)⟩
      rw [show (i + 1) * 3 = i * 3 + 3 by omega]
      rfl
theorem kidL_heads (g : List Lf → Nd) : ∀ P : List (UInt8 × List Lf), (kidL g P).heads = P.map (·.1)
  | [] => rfl
  | (h, M) :: P => by rw [kidL, Cs.heads, List.map_cons, kidL_heads g P]
theorem slot_snoc (g : List Lf → Nd) (h : UInt8) (M : List Lf) (i : Nat) : ∀ P : List (UInt8 × List Lf), (∀ p ∈ P, p.1.toNat ≠ h.toNat) → slot (kidL g (P ++ [(h, M)])) i = if i = h.toNat then refI (item (g (tails 1 M))) else slot (kidL g P) i
  | [], _ => by
    show slot (Cs.cons h (g (tails 1 M)) Cs.nil) i = if i = h.toNat then refI (item (g (tails 1 M))) else slot Cs.nil i
    simp only [slot]
  | (h', M') :: P, hP => by
    show slot (kidL g ((h', M') :: (P ++ [(h, M)]))) i = _
    rw [kidL, slot, kidL, slot, slot_snoc g h M i P fun p hp => hP p (List.mem_cons_of_mem _ hp)]
    have : h'.toNat ≠ h.toNat := hP (h', M') (List.mem_cons_self ..)
    by_cases e : i = h'.toNat
    · rw [if_pos e, if_pos e, if_neg (by omega)]
    · rw [if_neg e, if_neg e]
theorem slots_snoc (g : List Lf → Nd) (h : UInt8) (M : List Lf) (P : List (UInt8 × List Lf)) (hP : ∀ p ∈ P, p.1.toNat ≠ h.toNat) :
    (List.range 17).map (slot (kidL g (P ++ [(h, M)]))) = ((List.range 17).map (slot (kidL g P))).set h.toNat (refI (item (g (tails 1 M)))) := by
  apply List.ext_getElem?
  intro i
  rw [List.getElem?_set, List.getElem?_map, List.getElem?_map, List.length_map, List.length_range]
  by_cases hi : i < 17
  · rw [List.getElem?_range hi, Option.map_some, slot_snoc g h M i P hP]
    by_cases e : i = h.toNat
    · rw [if_pos e, if_pos e.symm, if_pos (by omega)]
    · rw [if_neg e, if_neg fun e2 => e e2.symm, Option.map_some]
  · rw [List.getElem?_eq_none (by simpa using hi), Option.map_none]
    split
    · rw [if_neg (by omega)]
    · rfl
theorem csF.snoc {F : Nat → Prop} {W : World} (g : List Lf → Nd) (h : UInt8) (M : List Lf) {y : Value} (hy : ndF F W (g (tails 1 M)) y) : ∀ (P : List (UInt8 × List Lf)) {ys : List Value}, csF F W (kidL g P) ys → csF F W (kidL g (P ++ [(h, M)])) (ys ++ [y])
  | [], ys, hc => by
    rw [kidL, csF] at hc
    subst hc
    show csF F W (kidL g [(h, M)]) [y]
    rw [kidL, csF, kidL]
    exact ⟨y, [], rfl, hy, by rw [csF]⟩
  | (h', M') :: P, ys, hc => by
    rw [kidL, csF] at hc
    obtain ⟨y', r, rfl, h1, h2⟩ := hc
    show csF F W (kidL g ((h', M') :: (P ++ [(h, M)]))) (y' :: (r ++ [y]))
    rw [kidL, csF]
    exact ⟨y', _, rfl, h1, csF.snoc g h M hy P h2⟩
/-- The kids of leaves in order. -/
theorem grp_mem {n : Nat} : ∀ (m : Nat) (L : List Lf), good (n + 1) L → ∀ p ∈ grp m L, p.2 ≠ [] ∧ good (n + 1) p.2 ∧ p.2.length ≤ L.length ∧ (∀ x ∈ p.2, x ∈ L ∧ x.1.head? = some p.1)
  | 0, L, _, p, hp => by rw [grp] at hp; cases hp
  | m + 1, L, hg, p, hp => by
    cases hL : L with
    | nil => rw [hL, grp] at hp; cases hp
    | cons x l =>
      cases hx : x.1 with
      | nil =>
        have := (hg.1 x (by rw [hL]; exact List.mem_cons_self ..)).1
        rw [hx] at this
        simp at this
      | cons h t =>
        rw [grp_cons (x := x) (h := h) (t := t) (by rw [hL]; rfl) hx] at hp
        rw [← hL]
        rcases List.mem_cons.1 hp with rfl | hp
        · refine ⟨?_, hg.take _, by simp only [List.length_take]; omega, fun y hy => ⟨List.mem_of_mem_take hy, run_take h L y hy⟩⟩
          have h1 : 0 < run h L := by rw [hL]; exact run_pos (by rw [hx]; rfl)
          intro e
          have h2 := congrArg List.length e
          have h3 : 0 < L.length := by rw [hL]; simp
          simp only [List.length_take, List.length_nil] at h2
          omega
        · obtain ⟨h1, h2, h3, h4⟩ := grp_mem m (L.drop (run h L)) (hg.drop _) p hp
          exact ⟨h1, h2, by rw [List.length_drop] at h3; omega, fun y hy => ⟨List.mem_of_mem_drop (h4 y hy).1, (h4 y hy).2⟩⟩
theorem upC_pair (g : List Lf → Nd) : ∀ P : List (UInt8 × List Lf), upC (kidL g P) → P.Pairwise fun a b => a.1.toNat < b.1.toNat
  | [], _ => List.Pairwise.nil
  | (h, M) :: P, hu => by
    rw [kidL, upC, kidL_heads] at hu
    exact List.Pairwise.cons (fun p hp => hu.1 p.1 (List.mem_map_of_mem hp)) (upC_pair g P hu.2)
/-- What the children may be made of. -/
def brF (Bs : Nat) (le ne : Value) (q : Nat) : Prop := Bs < q ∧ le.ownBlock ≠ some q ∧ ne.ownBlock ≠ some q
/-- Between the rounds of a branch: its children P stand in the node k, the items of Q in the array A. -/
structure brI (g : List Lf → Nd) (W0 : World) (k A Bs : Nat) (P Q : List (UInt8 × List Lf)) (le ne : Value) (ys cs : List Value) (W : World) : Prop where
  bel : Below k W0 W
  siz : Bs < W.heap.size
  node : W.heap[k]? = some (nodeO (.bool false) (.string ⟨#[]⟩) (.slice none 0 0) (.string ⟨#[]⟩) le ne)
  box : W.heap[k + 1]? = some (.cells #[.pointer (some ⟨k, 0, none⟩)] 106 (0, 0))
  tb : W.heap[A + 1]? = some (.cells #[.slice (some ⟨A, 0, none⟩) 17 17] 49 (0, 0))
  arr : W.heap[A]? = some (.cells cs.toArray 51 (0, 0))
  rowL : W.ownsRow (Bs + 1) 9 1 le P.length (P.map fun p => .string (bsS [p.1]))
  rowN : W.ownsRow (Bs + 1) 106 1 ne P.length ys
  dis : ∀ q, le.ownBlock = some q → ne.ownBlock ≠ some q
  kid : csF (brF Bs le ne) W (kidL g P) ys
  sl : cellsF (brF Bs le ne) W ((List.range 17).map (slot (kidL g Q))) cs
section
variable {g : List Lf → Nd} {W0 W W2 : World} {k A Bs : Nat} {P Q : List (UInt8 × List Lf)} {le ne : Value} {ys cs : List Value}
theorem brI.keep (h : brI g W0 k A Bs P Q le ne ys cs W) (hkA : k + 1 < A) (hAB : A + 1 < Bs) (hb : Below k W W2) (hc : ∀ q, q ≠ Bs → cellsAt W q → W2.heap[q]? = W.heap[q]?) : brI g W0 k A Bs P Q le ne ys cs W2 :=
  ⟨h.bel.trans hb, Nat.lt_of_lt_of_le h.siz hb.size, (hc _ (by omega) ⟨_, _, _, h.node⟩).trans h.node, (hc _ (by omega) ⟨_, _, _, h.box⟩).trans h.box, (hc _ (by omega) ⟨_, _, _, h.tb⟩).trans h.tb, (hc _ (by omega) ⟨_, _, _, h.arr⟩).trans h.arr,
    row_same h.rowL fun q hq hcq => hc q (by have := row_lt h.rowL q hq; omega) hcq, row_same h.rowN fun q hq hcq => hc q (by have := row_lt h.rowN q hq; omega) hcq, h.dis, h.kid.to fun q hq hcq => ⟨hq, hc q (by have := hq.1; omega) hcq⟩, h.sl.to fun q hq hcq => ⟨hq, hc q (by have := hq.1; omega) hcq⟩⟩
theorem brI.below (h : brI g W0 k A Bs P Q le ne ys cs W) (hkA : k + 1 < A) (hAB : A + 1 < Bs) (hb : Below W.heap.size W W2) : brI g W0 k A Bs P Q le ne ys cs W2 :=
  h.keep hkA hAB (hb.mono (by have := h.siz; omega)) fun q _ hq => hb.block q hq.lt
theorem brI.turned {l : Nat} (h : brI g W0 k A Bs P Q le ne ys cs W) (hkA : k + 1 < A) (hAB : A + 1 < Bs) (hl : k ≤ l) (ht : recTurned l W W2) : brI g W0 k A Bs P Q le ne ys cs W2 :=
  h.keep hkA hAB (turned_below ht hl) fun q _ hc => ht.cellsAt hc
theorem brI.set (h : brI g W0 k A Bs P Q le ne ys cs W) (hkA : k + 1 < A) (hAB : A + 1 < Bs) (v : Value) : brI g W0 k A Bs P Q le ne ys cs (W.setCell ⟨Bs, 0, none⟩ v) :=
  h.keep hkA hAB ((Below.refl _ _).setCell (p := ⟨Bs, 0, none⟩) (by show k ≤ Bs; omega) _) fun q hq _ => heap_set_ne hq
/-- What a round keeps: records, and the iterator's box. -/
structure kpR (Bs : Nat) (W W2 : World) : Prop where
  size : W.heap.size ≤ W2.heap.size
  same : ∀ (q : Nat) (o : Obj), W.heap[q]? = some o → o.isCells = false → W2.heap[q]? = some o
  box : W.heap[Bs]? = W2.heap[Bs]?
theorem kpR.refl (Bs : Nat) (W : World) : kpR Bs W W := ⟨Nat.le_refl _, fun _ _ h _ => h, rfl⟩
theorem kpR.trans {W3 : World} (h : kpR Bs W W2) (h2 : kpR Bs W2 W3) : kpR Bs W W3 := ⟨Nat.le_trans h.size h2.size, fun q o ho hc => h2.same q o (h.same q o ho hc) hc, h.box.trans h2.box⟩
theorem kpR.of_below (hB : Bs < W.heap.size) (hb : Below W.heap.size W W2) : kpR Bs W W2 := ⟨hb.size, fun q o ho _ => (hb.block q (Array.getElem?_eq_some_iff.1 ho).1).trans ho, (hb.block Bs hB).symm⟩
theorem kpR.of_set {q : Nat} (hq : cellsAt W q) (hB : q ≠ Bs) (j : Nat) (v : Value) : kpR Bs W (W.setCell ⟨q, j, none⟩ v) :=
  ⟨by rw [World.size_setCell]; exact Nat.le_refl _, fun q2 o ho hc => (heap_set_ne (fun e => by
    obtain ⟨c, t, f, hh⟩ := hq
    rw [e, hh] at ho
    obtain rfl := Option.some.inj ho
    cases hc)).trans ho, (heap_set_ne fun e => hB e.symm).symm⟩
theorem brI.refer (h : brI g W0 k A Bs P Q le ne ys cs W) {hh : UInt8} {M : List Lf} {q : Nat} (hnd : ndF (brF Bs le ne) W (g (tails 1 M)) (.pointer (some ⟨q, 0, none⟩))) (hk3 : 3 ≤ k) (hkA : k + 1 < A) (hAB : A + 1 < Bs) (hlen : (enc (item (g (tails 1 M)))).length ≤ 100000) (hT : KT W) (hP : P.length ≤ 1000) :
    Calls Tryz.prog 83 #[.pointer (some ⟨k, 0, none⟩), .string (bsS [hh]), .pointer (some ⟨q, 0, none⟩)] W fun e w2 => ∃ b t s, e = .returned (.agg #[b, t, s]) ∧ ∃ le' ne', brI g W0 k A Bs (P ++ [(hh, M)]) Q le' ne' (ys ++ [.pointer (some ⟨q, 0, none⟩)]) cs w2 ∧ itF (brF Bs le' ne') w2 (refI (item (g (tails 1 M)))) (.agg #[b, t, s]) ∧ kpR Bs W w2 := by
  have hs := h.siz
  obtain ⟨ney, hn⟩ := hnd.node
  refine (refer_any (fun r => brF Bs le ne r ∧ r < W.heap.size) W k (Bs + 1) _ _ _ _ _ _ P.length _ ys [hh] q _ _ ney hk3 (by omega) (by omega) (by omega) h.node h.rowL h.rowN h.dis (hn.to fun r hr hc => ⟨⟨hr, hc.lt⟩, rfl⟩) (fun r hr hh => ?_) hlen hT).mono ?_
  · replace hr := hr.1
    rcases hh with (hh | hh) | hh
    · exact hr.2.1 hh
    · exact hr.2.2 hh
    · have := hr.1
      omega
  · rintro e w2 ⟨v, le', ne', rfl, hit, hn2, hL, hN, hl1, hl2, hdis, hf⟩
    obtain ⟨a, cc, rfl, -, -⟩ := hit.form
    have hbk : Below k W w2 := hf.toBelow (n := k) (by omega) fun r hr => by
      rcases hr with (hr | hr) | hr
      · have := row_lt h.rowL r hr
        omega
      · have := row_lt h.rowN r hr
        omega
      · omega
    have hsm : ∀ r, r < W.heap.size → r ≠ k → r ≤ Bs → w2.heap[r]? = W.heap[r]? := fun r h1 h2 h3 => hf.block r h1 fun hr => by
      rcases hr with (hr | hr) | hr
      · have := row_lt h.rowL r hr
        omega
      · have := row_lt h.rowN r hr
        omega
      · exact h2 hr
    have hto2 : ∀ r, (brF Bs le ne r ∧ r < W.heap.size) → brF Bs le' ne' r ∧ w2.heap[r]? = W.heap[r]? := fun r ⟨hr, hc⟩ => by
      refine ⟨⟨hr.1, fun e => ?_, fun e => ?_⟩, hf.block r hc fun hh => ?_⟩
      · rcases hl1 r e with h1 | h1
        · exact hr.2.1 h1
        · omega
      · rcases hl2 r e with h1 | h1
        · exact hr.2.2 h1
        · omega
      · rcases hh with (hh | hh) | hh
        · exact hr.2.1 hh
        · exact hr.2.2 hh
        · have := hr.1
          omega
    have hto : ∀ r, brF Bs le ne r → cellsAt W r → brF Bs le' ne' r ∧ w2.heap[r]? = W.heap[r]? := fun r hr hc => hto2 r ⟨hr, hc.lt⟩
    have hl : (P ++ [(hh, M)]).length = P.length + 1 := by simp
    refine ⟨_, _, _, rfl, le', ne', ⟨h.bel.trans hbk, Nat.lt_of_lt_of_le hs hf.size, hn2, (hsm _ (by omega) (by omega) (by omega)).trans h.box, (hsm _ (by omega) (by omega) (by omega)).trans h.tb, (hsm _ (by omega) (by omega) (by omega)).trans h.arr, by rw [List.map_append, hl]; exact hL, by rw [hl]; exact hN, hdis, csF.snoc g hh M (hnd.to hto) P (h.kid.to hto), h.sl.to hto⟩, ?_, ⟨hf.size, fun r o ho hc => (hf.block r (Array.getElem?_eq_some_iff.1 ho).1 fun hr => ?_).trans ho, (hsm _ hs (by omega) (Nat.le_refl _)).symm⟩⟩
    · exact hit.to fun r hr _ => ⟨(hto2 r hr).1, rfl⟩
    · have hcc : ∀ {cs t f}, W.heap[r]? = some (.cells cs t f) → False := fun e => by
        rw [e] at ho
        obtain rfl := Option.some.inj ho
        cases hc
      rcases hr with (hr | hr) | hr
      · obtain ⟨cs, hcs⟩ := row_own h.rowL r hr
        exact hcc hcs
      · obtain ⟨cs, hcs⟩ := row_own h.rowN r hr
        exact hcc hcs
      · rw [hr] at hcc
        exact hcc h.node
theorem brI.put (h : brI g W0 k A Bs P Q le ne ys cs W) {hh : UInt8} {M : List Lf} {b t s : Value} (hit : itF (brF Bs le ne) W (refI (item (g (tails 1 M)))) (.agg #[b, t, s])) (hkA : k + 1 < A) (hAB : A + 1 < Bs) (h16 : hh.toNat < 17) (hQ : ∀ p ∈ Q, p.1.toNat ≠ hh.toNat) :
    brI g W0 k A Bs P (Q ++ [(hh, M)]) le ne ys (((cs.set (hh.toNat * 3) b).set (hh.toNat * 3 + 1) t).set (hh.toNat * 3 + 2) s) (((W.setCell ⟨A, hh.toNat * 3, none⟩ b).setCell ⟨A, hh.toNat * 3 + 1, none⟩ t).setCell ⟨A, hh.toNat * 3 + 2, none⟩ s) := by
  have hA := h.arr
  have hs : ∀ r, r ≠ A → (((W.setCell ⟨A, hh.toNat * 3, none⟩ b).setCell ⟨A, hh.toNat * 3 + 1, none⟩ t).setCell ⟨A, hh.toNat * 3 + 2, none⟩ s).heap[r]? = W.heap[r]? := fun r hr => by
    rw [heap_set_ne hr, heap_set_ne hr, heap_set_ne hr]
  have hb : Below k W (((W.setCell ⟨A, hh.toNat * 3, none⟩ b).setCell ⟨A, hh.toNat * 3 + 1, none⟩ t).setCell ⟨A, hh.toNat * 3 + 2, none⟩ s) :=
    (((Below.refl _ _).setCell (p := ⟨A, hh.toNat * 3, none⟩) (by show k ≤ A; omega) _).setCell (p := ⟨A, hh.toNat * 3 + 1, none⟩) (by show k ≤ A; omega) _).setCell (p := ⟨A, hh.toNat * 3 + 2, none⟩) (by show k ≤ A; omega) _
  have hto : ∀ r, brF Bs le ne r → cellsAt W r → brF Bs le ne r ∧ _ := fun r hr _ => ⟨hr, hs r (by have := hr.1; omega)⟩
  refine ⟨h.bel.trans hb, Nat.lt_of_lt_of_le h.siz hb.size, (hs _ (by omega)).trans h.node, (hs _ (by omega)).trans h.box, (hs _ (by omega)).trans h.tb, ?_, row_same h.rowL fun r hr _ => hs r (by have := row_lt h.rowL r hr; omega), row_same h.rowN fun r hr _ => hs r (by have := row_lt h.rowN r hr; omega), h.dis, h.kid.to hto, ?_⟩
  · rw [setCell_at (setCell_at (setCell_at hA _ _) _ _) _ _]
    simp only [List.setIfInBounds_toArray]
  · rw [slots_snoc g hh M Q hQ]
    exact cellsF.set (hit.to hto) _ (h.sl.to hto) (by simpa using h16)
end
structure bxS where
  st : Nat
  u : Value
  q : Nat
  le : Value
  ne : Value
  b : Value
  t : Value
  s : Value
def bx0 : bxS := ⟨0, undef, 0, undef, undef, undef, undef, undef⟩
/-- Where a round of a branch stands. -/
def brM (g : List Lf → Nd) (W0 : World) (k A Bs : Nat) (P : List (UInt8 × List Lf)) (hh : UInt8) (M : List Lf) (le ne : Value) (ys cs : List Value) (σ : bxS) (W : World) : Prop := match σ.st with
  | 0 => brI g W0 k A Bs P P le ne ys cs W
  | 1 => brI g W0 k A Bs P P le ne ys cs W ∧ lvF (fun _ => True) W σ.u (tails 1 M)
  | 2 => brI g W0 k A Bs P P le ne ys cs W ∧ ndF (brF Bs le ne) W (g (tails 1 M)) (.pointer (some ⟨σ.q, 0, none⟩))
  | 3 => brI g W0 k A Bs (P ++ [(hh, M)]) P σ.le σ.ne (ys ++ [.pointer (some ⟨σ.q, 0, none⟩)]) cs W ∧ itF (brF Bs σ.le σ.ne) W (refI (item (g (tails 1 M)))) (.agg #[σ.b, σ.t, σ.s])
  | _ => ∃ cs', brI g W0 k A Bs (P ++ [(hh, M)]) (P ++ [(hh, M)]) σ.le σ.ne (ys ++ [.pointer (some ⟨σ.q, 0, none⟩)]) cs' W
structure brR (g : List Lf → Nd) (W0 : World) (k A Bs : Nat) (P : List (UInt8 × List Lf)) (hh : UInt8) (M : List Lf) (le ne : Value) (ys cs : List Value) (W1 : World) (σ : bxS) (W : World) : Prop where
  kp : kpR Bs W1 W
  m : brM g W0 k A Bs P hh M le ne ys cs σ W
section
variable {g : List Lf → Nd} {W0 W1 W W2 : World} {k A Bs q : Nat} {P : List (UInt8 × List Lf)} {hh : UInt8} {M : List Lf} {le ne u le' ne' b t s : Value} {ys cs : List Value} {σ : bxS}
theorem brI.any (h : brI g W0 k A Bs P P le ne ys cs W) : Below k W0 W ∧ W.cell? ⟨k + 1, 0, none⟩ = some (.pointer (some ⟨k, 0, none⟩)) ∧ W.cell? ⟨A + 1, 0, none⟩ = some (.slice (some ⟨A, 0, none⟩) 17 17) ∧ Bs < W.heap.size :=
  ⟨h.bel, by rw [Lib.cell_of_heap h.box]; rfl, by rw [Lib.cell_of_heap h.tb]; rfl, h.siz⟩
theorem brR.reads (h : brR g W0 k A Bs P hh M le ne ys cs W1 σ W) : Below k W0 W ∧ W.cell? ⟨k + 1, 0, none⟩ = some (.pointer (some ⟨k, 0, none⟩)) ∧ W.cell? ⟨A + 1, 0, none⟩ = some (.slice (some ⟨A, 0, none⟩) 17 17) ∧ Bs < W.heap.size := by
  have hm := h.m
  unfold brM at hm
  split at hm
  · exact hm.any
  · exact hm.1.any
  · exact hm.1.any
  · have h := hm.1
    exact ⟨h.bel, by rw [Lib.cell_of_heap h.box]; rfl, by rw [Lib.cell_of_heap h.tb]; rfl, h.siz⟩
  · obtain ⟨_, h⟩ := hm
    exact ⟨h.bel, by rw [Lib.cell_of_heap h.box]; rfl, by rw [Lib.cell_of_heap h.tb]; rfl, h.siz⟩
theorem brI_cells {Q : List (UInt8 × List Lf)} (h : brI g W0 k A Bs P Q le ne ys cs W) {i : Nat} (hi : i < 51) : ∃ v, W.cell? ⟨A, i, none⟩ = some v := by
  have hl := h.sl.length
  simp only [List.length_map, List.length_range] at hl
  refine ⟨cs[i]'(by omega), ?_⟩
  rw [Lib.cell_of_heap h.arr, List.getElem?_toArray]
  exact List.getElem?_eq_getElem (by omega)
theorem brR.s1 (h : brR g W0 k A Bs P hh M le ne ys cs W1 bx0 W) (hkA : k + 1 < A) (hAB : A + 1 < Bs) (hb : Below W.heap.size W W2) (hu : lvF (fun g => W.heap.size ≤ g) W2 u (tails 1 M)) : brR g W0 k A Bs P hh M le ne ys cs W1 { bx0 with st := 1, u := u } W2 :=
  ⟨h.kp.trans (kpR.of_below h.reads.2.2.2 hb), (show brI g W0 k A Bs P P le ne ys cs W from h.m).below hkA hAB hb, hu.to fun _ _ _ => ⟨trivial, rfl⟩⟩
theorem brR.s2 (h : brR g W0 k A Bs P hh M le ne ys cs W1 { bx0 with st := 1, u := u } W) (hkA : k + 1 < A) (hAB : A + 1 < Bs) (hb : Below W.heap.size W W2) (hq : ndF (fun g => W.heap.size ≤ g) W2 (g (tails 1 M)) (.pointer (some ⟨q, 0, none⟩))) : brR g W0 k A Bs P hh M le ne ys cs W1 { bx0 with st := 2, q := q } W2 := by
  have hI : brI g W0 k A Bs P P le ne ys cs W := h.m.1
  have hs := hI.siz
  exact ⟨h.kp.trans (kpR.of_below hs hb), hI.below hkA hAB hb, hq.to fun r hr _ => ⟨⟨by omega, fun e => by have := row_lt hI.rowL r e; omega, fun e => by have := row_lt hI.rowN r e; omega⟩, rfl⟩⟩
theorem brR.s3 (h : brR g W0 k A Bs P hh M le ne ys cs W1 { bx0 with st := 2, q := q } W) (hk3 : 3 ≤ k) (hkA : k + 1 < A) (hAB : A + 1 < Bs) (hlen : (enc (item (g (tails 1 M)))).length ≤ 100000) (hT : KT W0) (hP : P.length ≤ 1000) :
    Calls Tryz.prog 83 #[.pointer (some ⟨k, 0, none⟩), .string (bsS [hh]), .pointer (some ⟨q, 0, none⟩)] W fun e w2 => ∃ b t s, e = .returned (.agg #[b, t, s]) ∧ ∃ le' ne', brR g W0 k A Bs P hh M le ne ys cs W1 { bx0 with st := 3, q := q, le := le', ne := ne', b := b, t := t, s := s } w2 :=
  (brI.refer (hh := hh) h.m.1 h.m.2 hk3 hkA hAB hlen (hT.below h.m.1.bel hk3) hP).mono fun _ _ ⟨b, t, s, he, le', ne', hI, hit, hk⟩ => ⟨b, t, s, he, le', ne', h.kp.trans hk, hI, hit⟩
theorem brR.s4 (h : brR g W0 k A Bs P hh M le ne ys cs W1 { bx0 with st := 3, q := q, le := le', ne := ne', b := b, t := t, s := s } W) (hkA : k + 1 < A) (hAB : A + 1 < Bs) (h16 : hh.toNat < 17) (hQ : ∀ p ∈ P, p.1.toNat ≠ hh.toNat) :
    brR g W0 k A Bs P hh M le ne ys cs W1 { bx0 with st := 4, q := q, le := le', ne := ne' } (((W.setCell ⟨A, hh.toNat * 3, none⟩ b).setCell ⟨A, hh.toNat * 3 + 1, none⟩ t).setCell ⟨A, hh.toNat * 3 + 2, none⟩ s) := by
  have hI := h.m.1
  have hA : ∃ c, W.heap[A]? = some (.cells c 51 (0, 0)) := ⟨_, hI.arr⟩
  have hset : ∀ {w : World} (j : Nat) (v : Value), (∃ c, w.heap[A]? = some (.cells c 51 (0, 0))) → (∃ c, (w.setCell ⟨A, j, none⟩ v).heap[A]? = some (.cells c 51 (0, 0))) ∧ kpR Bs w (w.setCell ⟨A, j, none⟩ v) := fun j v ⟨c, hc⟩ => ⟨⟨_, setCell_at hc j v⟩, kpR.of_set ⟨_, _, _, hc⟩ (by omega) j v⟩
  have h1 := hset (hh.toNat * 3) b hA
  have h2 := hset (hh.toNat * 3 + 1) t h1.1
  have h3 := hset (hh.toNat * 3 + 2) s h2.1
  exact ⟨h.kp.trans (h1.2.trans (h2.2.trans h3.2)), _, hI.put h.m.2 hkA hAB h16 hQ⟩
end
theorem grp_le : ∀ (m : Nat) (L : List Lf), (grp m L).length ≤ m
  | 0, L => by rw [grp]; exact Nat.le_refl _
  | m + 1, [] => by rw [grp]; exact Nat.zero_le _
  | m + 1, x :: l => by
    rw [grp]
    split
    · exact Nat.zero_le _
    · rw [List.length_cons]
      exact Nat.succ_le_succ (grp_le m _)
def zc17 : List Value := (List.replicate 17 [.bool false, .string ⟨#[]⟩, .slice none 0 0]).flatten
theorem make17 (w : World) : (Instr.makeSlice 49 (.int .i64 17) (.int .i64 17)).run Tryz.prog w = .ok (.slice (some ⟨w.heap.size, 0, none⟩) 17 17) (w.alloc (.cells zc17.toArray 51)) := by kernel_rfl
theorem cells_nil (F : Nat → Prop) (W : World) : ∀ l : List Nat, cellsF F W (l.map (slot .nil)) (List.replicate l.length [.bool false, .string ⟨#[]⟩, .slice none 0 0]).flatten
  | [] => by
    show cellsF F W [] []
    rw [cellsF]
  | i :: l => by
    show cellsF F W (slot .nil i :: l.map (slot .nil)) (.bool false :: .string ⟨#[]⟩ :: .slice none 0 0 :: (List.replicate l.length [.bool false, .string ⟨#[]⟩, .slice none 0 0]).flatten)
    rw [cellsF]
    refine ⟨_, _, _, _, rfl, ?_, cells_nil F W l⟩
    rw [slot, itF]
    rfl
theorem lvF.at_of {F F' : Nat → Prop} {W : World} {bl o n c : Nat} {L : List Lf} (h : lvF F W (.slice (some ⟨bl, o, none⟩) n c) L) (hF : F' bl) : lvF F' W (.slice (some ⟨bl, o, none⟩) n c) L := by
  obtain ⟨a, c', hv, hc, hx⟩ := h
  refine ⟨a, c', hv, hc, fun i y hi => ?_⟩
  obtain ⟨b', o', ⟨e, _⟩, h0, h1⟩ := hx i y hi
  simp only [Value.slice.injEq] at hv
  obtain ⟨hv, _, _⟩ := hv
  rw [e] at hv
  simp only [Option.some.injEq, Addr.mk.injEq, and_true] at hv
  obtain ⟨rfl, rfl⟩ := hv
  exact ⟨_, _, ⟨e, hF⟩, h0, h1⟩
theorem laid3 (W : World) (v : Value) : Below W.heap.size W (((W.alloc (.cells zc17.toArray 51)).alloc (.cells #[.slice (some ⟨W.heap.size, 0, none⟩) 17 17] 49)).alloc (.cells #[v] 134)) ∧ (((W.alloc (.cells zc17.toArray 51)).alloc (.cells #[.slice (some ⟨W.heap.size, 0, none⟩) 17 17] 49)).alloc (.cells #[v] 134)).heap.size = W.heap.size + 3 ∧ (((W.alloc (.cells zc17.toArray 51)).alloc (.cells #[.slice (some ⟨W.heap.size, 0, none⟩) 17 17] 49)).alloc (.cells #[v] 134)).heap[W.heap.size]? = some (.cells zc17.toArray 51 (0, 0)) ∧ (((W.alloc (.cells zc17.toArray 51)).alloc (.cells #[.slice (some ⟨W.heap.size, 0, none⟩) 17 17] 49)).alloc (.cells #[v] 134)).heap[W.heap.size + 1]? = some (.cells #[.slice (some ⟨W.heap.size, 0, none⟩) 17 17] 49 (0, 0)) ∧ (((W.alloc (.cells zc17.toArray 51)).alloc (.cells #[.slice (some ⟨W.heap.size, 0, none⟩) 17 17] 49)).alloc (.cells #[v] 134)).heap[W.heap.size + 2]? = some (.cells #[v] 134 (0, 0)) :=
  ⟨(((Below.refl _ W).alloc (Nat.le_refl _) _).alloc (by simp) _).alloc (by simp; omega) _, by simp, (Below.heap_alloc _ _ _ (by simp; omega)).trans ((Below.heap_alloc _ _ _ (by simp)).trans (heap_new rfl)), (Below.heap_alloc _ _ _ (by simp)).trans (heap_new (by simp)), heap_new (by simp)⟩
set_option maxRecDepth 100000 in
set_option maxHeartbeats 16000000 in
theorem grow_branch (f n nn : Nat) (L : List Lf) (x z : Lf) (v : Value) (W : World) (hn : n ≤ 128) (hg : good n L) (hL : L.length = nn + 1) (hn1 : 1 ≤ nn) (hx : L[0]? = some x) (hz : L[nn]? = some z) (hc : common x.1 z.1 = 0) (hn0 : 0 < n)
    (hok : ok n (.branch (kids (grow f) L.length L))) (hup : upC (kids (grow f) L.length L)) (hf : n < f + 1) (ih : growP f) (hL2 : L.length ≤ 200) (hv : lvF (fun _ => True) W v L) (hT : KT W) (h3 : 3 ≤ W.heap.size) :
    Calls Tryz.prog 63 #[v] W fun e w' => ∃ q, e = .returned (.pointer (some ⟨q, 0, none⟩)) ∧ ndF (fun g => W.heap.size ≤ g) w' (.branch (kids (grow f) L.length L)) (.pointer (some ⟨q, 0, none⟩)) ∧ Below W.heap.size W w' := by
  obtain ⟨hx1, hx2, _, _⟩ := hg.1 x (List.mem_of_getElem? hx)
  obtain ⟨hz1, hz2, _, _⟩ := hg.1 z (List.mem_of_getElem? hz)
  have hvv := hv
  obtain ⟨a, cp, rfl, hcp, hcell⟩ := hv
  obtain ⟨bl, o, ⟨rfl, _⟩, c0, c1⟩ := hcell 0 x hx
  obtain ⟨bl2, o2, ⟨e2, _⟩, d0, d1⟩ := hcell nn z hz
  simp only [Option.some.injEq, Addr.mk.injEq, and_true] at e2
  obtain ⟨rfl, rfl⟩ := e2
  rw [Nat.zero_mul, Nat.add_zero] at c0 c1
  have hlt := lt_of_cell c0
  clear hcell c1 d1
  have cC := fun w => Common_any x.1 z.1 (by omega) (by omega) w
  rw [hc] at cC
  obtain ⟨n, rfl⟩ : ∃ n', n = n' + 1 := ⟨n - 1, by omega⟩
  obtain ⟨G, hG⟩ : ∃ G, G = grp L.length L := ⟨_, rfl⟩
  rw [kids_grp, ← hG] at hok hup
  rw [kids_grp, ← hG]
  have hpr := upC_pair _ _ hup
  have hgm := grp_mem (n := n) L.length L hg
  rw [← hG] at hgm
  have hGl : G.length ≤ 200 := by rw [hG]; exact Nat.le_trans (grp_le _ _) hL2
  have cIt := fun (l Bs : Nat) (hB : bl < Bs) => parts_it 8 (by omega) l Bs (fun q => q ≤ bl) (by omega) L.length L (Nat.le_refl _) (fun w hw e => by have := (hg.1 w hw).1; rw [e] at this; simp at this) (by omega) (fun w hw => by have := (hg.1 w hw).1; omega)
  rw [← hG] at cIt
  have hvL := hvv.at_of (F' := fun q => q ≤ bl) (Nat.le_refl bl)
  rw [hL] at hcp hvv ⊢
  obtain ⟨hw, hw0, hw1, hwn, hne1⟩ := nnF hn1 (Nat.le_of_succ_le_succ (Nat.le_trans (Nat.le_of_eq hL.symm) (Nat.le_trans hL2 (by decide : 200 ≤ 201))))
  have cCh := Lib.hid cC
  have hTh := Lib.hid hT
  have hokh := Lib.hid hok
  have h3h := Lib.hid h3
  have hnh := Lib.hid hn
  have ihh := Lib.hid ih
  have cIth := Lib.hid cIt
  have hgmh := Lib.hid hgm
  have hprh := Lib.hid hpr
  have hvLh := Lib.hid hvL
  have hLh := Lib.hid hL
  have hLh2 := Lib.hid hL2
  have hfh := Lib.hid hf
  clear cC hcp hL hL2 hT hok hup h3 hn ih cIt hgm hpr hx hz hc hvv hvL hg hf hx1 hz1 hn0 hn1 hx2 hz2 hG
  refine calls_FW (n := 9) ?_
  refine callsIn_of_wp_marks Tryz.func63 rfl trivial ?_ rfl
  simp only [Tryz.ntmps63, List.size_toArray, List.length_cons, List.length_nil, Nat.reduceAdd, Nat.reduceSub, Array.replicate_succ, Array.replicate_zero, List.push_toArray, List.append_toArray, List.nil_append, List.cons_append]
  refine wpIn_hide fun QQ hQQ => ?_
  gi_wp2
  obtain ⟨bB, z0, n0, n1⟩ := laid2 W
  generalize ((W.alloc (.cells #[.bool false, .string ⟨#[]⟩, .slice none 0 0, .string ⟨#[]⟩, .slice none 0 0, .slice none 0 0] 110)).alloc (.cells #[.pointer (some ⟨W.heap.size, 0, none⟩)] 106)) = w0 at *
  have q0 := (bB.cell (p := ⟨bl, o, none⟩) hlt).trans c0
  have q1 := (bB.cell (p := ⟨bl, o + nn * 2, none⟩) hlt).trans d0
  have hlt2 : bl < w0.heap.size := by omega
  have z0h := Lib.hid z0
  clear z0 c0 d0
  have cC := cCh.out
  refine wpIn_flow (r := none) (fun k => ([1, 1, 1, 1, 1, 1, 1, 1, 1, 1, 1, 1, 1] : List Nat).getD k 1) (Below (w0.heap.size)) _ (Below.drew (Below.refl _ _)) (by kernel_rfl) (by kernel_rfl) ?_
  iterate 11 ((refine flow_quiet rfl rfl (fun K hK => ?_); apply Exists.intro; apply And.intro; (focus (intro w' hw'; have hc := (bcell hw').1; go_simp; (try go_bits); all_goals (first | exact rfl | exact ⟨rfl, hw'⟩))); go_simp; (try go_bits); refine hK _ ?_; clear hK K))
  first | (refine flow_quiet rfl rfl (fun K hK => ?_); apply Exists.intro; apply And.intro; (focus (intro w' hw'; have hc := (bcell hw').1; go_simp; (try go_bits); all_goals (go_at_call 82; with_reducible refine (cC _).mono ?_; rintro e w2 ⟨rfl, hb⟩; exact ⟨rfl, hw'.trans (hb.mono (below_le hw' (by simp)))⟩))); go_simp; (try go_bits); refine hK _ ?_; clear hK K) | (refine flow_quiet rfl rfl (fun K hK => ?_); apply Exists.intro; apply And.intro; (focus (intro w' hw'; have hc := (bcell hw').1; go_simp; (try go_bits); all_goals (go_at_call 82; refine (cC _).mono ?_; rintro e w2 ⟨rfl, hb⟩; exact ⟨rfl, hw'.trans (hb.mono (below_le hw' (by simp)))⟩))); go_simp; (try go_bits); refine hK _ ?_; clear hK K)
  (refine flow_quiet rfl rfl (fun K hK => ?_); apply Exists.intro; apply And.intro; (focus (intro w' hw'; have hc := (bcell hw').1; go_simp; (try go_bits); all_goals (first | exact rfl | exact ⟨rfl, hw'⟩))); go_simp; (try go_bits); refine hK _ ?_; clear hK K)
  refine flow_nil ?_
  intro w' hw'
  clear cC
  have z0 : w0.heap.size = W.heap.size + 2 := z0h
  have e0 := (hw'.cell (p := ⟨bl, o, none⟩) hlt2).trans q0
  have m0 := (hw'.block W.heap.size (by omega)).trans n0
  have m1 := (hw'.block (W.heap.size + 1) (by omega)).trans n1
  have mp := Lib.cell_of_heap m1 0
  simp only [List.getElem?_toArray, List.getElem?_cons_zero] at mp
  have z1 := hw'.size
  have bW : Below W.heap.size W w' := bB.trans (hw'.mono (by omega))
  clear q0 q1 n0 n1 bB
  gi_wp2_with (first | (simp only [make17, go_sem]; fail) | (gi_at_call 85; refine (callsIn_FW (parts_any _ _ ⟨_, _, _, rfl⟩)).mono ?_; rintro e w4 ⟨rfl, rfl⟩))
  rw [make17]
  gi_wp2_with (gi_at_call 85; refine (callsIn_FW (parts_any _ _ ⟨_, _, _, rfl⟩)).mono ?_; rintro e w4 ⟨rfl, rfl⟩)
  obtain ⟨bA, sA, a0, a1, a2⟩ := laid3 w' (.slice (some ⟨bl, o, none⟩) (nn + 1) cp)
  generalize ((w'.alloc (.cells zc17.toArray 51)).alloc (.cells #[.slice (some ⟨w'.heap.size, 0, none⟩) 17 17] 49)).alloc (.cells #[.slice (some ⟨bl, o, none⟩) (nn + 1) cp] 134) = w1 at *
  obtain ⟨k, hk⟩ : ∃ k, k = W.heap.size := ⟨_, rfl⟩
  obtain ⟨A, hA⟩ : ∃ A, A = w'.heap.size := ⟨_, rfl⟩
  rw [← hk] at m0 m1 mp
  rw [← hA] at bA sA a0 a1 a2
  simp only [← hk, ← hA]
  have hbk : bl < k := by omega
  have hkA : k + 1 < A := by omega
  have hAB : A + 1 < A + 2 := by omega
  have hk3 : 3 ≤ k := by
    have := h3h.out
    omega
  have bW1 : Below k W w1 := by rw [hk]; exact bW.trans (bA.mono (by omega))
  have hst : brI (grow f) W k A (A + 2) [] [] (.slice none 0 0) (.slice none 0 0) [] zc17 w1 :=
    ⟨bW1, by omega, (bA.block _ (by omega)).trans m0, (bA.block _ (by omega)).trans m1, a1, a0, World.ownsRow_nil _ _ _ _, World.ownsRow_nil _ _ _ _, fun q h => (by cases h), (by rw [kidL, csF]), cells_nil _ _ (List.range 17)⟩
  have hT1 : KT w1 := hTh.out.below bW1 hk3
  have hk' := Lib.hid hk
  have hA' := Lib.hid hA
  have hT1h := Lib.hid hT1
  clear hk hA e0 m0 m1 mp z1 z0 bW hw' bA a0 a1 hT1
  refine wpIn_rangeFunc_box (by omega) (gf := 104) (lb := #[.pointer (some ⟨A + 1 + 1, 0, none⟩)]) rfl trivial (enters_of Tryz.func104 (by kernel_rfl) rfl)
    G.length (A + 2) (by omega) (partY (fun q => q ≤ bl) G) (fun k X vs h => by obtain ⟨h, M, v, _, rfl, _⟩ := h; rfl) (boxK (A + 2)) (fun j X => ∃ le ne ys cs, brI (grow f) W k A (A + 2) (G.take j) (G.take j) le ne ys cs X)
    (fun j X Y ⟨le, ne, ys, cs, h⟩ hb => ⟨le, ne, ys, cs, h.below hkA hAB hb⟩) (fun j l X Y ⟨le, ne, ys, cs, h⟩ hl ht => ⟨le, ne, ys, cs, h.turned hkA hAB (by omega) ht⟩) (fun j X v ⟨le, ne, ys, cs, h⟩ => ⟨le, ne, ys, cs, h.set hkA hAB v⟩)
    (fun _ _ _ h1 h2 o h => h2 o (h1 o h)) (fun X Y hb o h => (hb.block _ (Array.getElem?_eq_some_iff.1 h).1).trans h) (fun l X Y hl ht o h => (ht.other (by omega)).trans h) ⟨_, _, _, _, hst⟩ ?hiter ?hround ?hdone
  case hiter =>
    intro l J X hJI hJb hJs hY hJ0 hbX
    have e1 : ∀ j Y, J j Y → ∀ q, q ≤ bl → Y.heap[q]? = W.heap[q]? := fun j Y h q hq => by
      obtain ⟨_, _, _, _, h2⟩ := hJI j Y h
      exact h2.bel.block q (by omega)
    have hv := hvLh.out
    rw [hLh.out] at hv
    exact cIth.out l (A + 2) (by omega) J X _ hJb hJs (fun j Y M v hJ h => h.to fun q hq _ => ⟨hq, (e1 j Y hJ q hq).trans (e1 0 X hJ0 q hq).symm⟩) hY hJ0 ((hbX.block _ (by omega)).trans a2) (hv.to fun q hq _ => ⟨hq, e1 0 X hJ0 q hq⟩)
  case hround =>
    intro l j X vs hl hI hj hvs
    obtain ⟨hh, M, v, hGj, rfl, hlv⟩ := hvs
    obtain ⟨le, ne, ys, cs, hI⟩ := hI
    obtain ⟨hM1, hM2, hM3, hM4⟩ := hgmh.out _ (List.mem_of_getElem? hGj)
    obtain ⟨y, hy⟩ : ∃ y, M[0]? = some y := ⟨_, List.getElem?_eq_getElem (List.length_pos_iff.2 hM1)⟩
    have hym := List.mem_of_getElem? hy
    obtain ⟨yt, hyt⟩ : ∃ yt, y.1 = hh :: yt := by
      have h1 := (hM4 y hym).2
      cases hq : y.1 with
      | nil => rw [hq] at h1; cases h1
      | cons b u =>
        rw [hq] at h1
        simp only [List.head?_cons, Option.some.injEq] at h1
        exact ⟨u, by rw [h1]⟩
    have hh16 : hh.toNat < 16 := (hM2.1 y hym).2.1 hh (by rw [hyt]; exact List.mem_cons_self ..)
    have hvv := hlv
    obtain ⟨ma, mc, rfl, hmc, hcell⟩ := hlv
    obtain ⟨mb, mo, ⟨rfl, hmb⟩, y0, _⟩ := hcell 0 y hy
    clear hcell
    rw [Nat.zero_mul, Nat.add_zero] at y0
    have hMl : 1 ≤ M.length := List.length_pos_iff.2 hM1
    have hvvh := Lib.hid hvv
    have hM2h := Lib.hid hM2
    have hM3h := Lib.hid hM3
    have hM4h := Lib.hid hM4
    have hyth := Lib.hid hyt
    have hIh := Lib.hid hI
    have hMlh := Lib.hid hMl
    have hyi := Lib.hid hy
    have hne16 : ((hh.toNat : Int) == 16) = false := by
      rw [beq_eq_false_iff_ne]
      omega
    have hy0 := Lib.cell_of_heap hI.tb 0
    clear hmc hvv hM1 hM2 hM3 hM4 hyt hy hym hI hMl
    have hPl : (G.take j).length ≤ 1000 := by
      rw [List.length_take]
      omega
    have hQ : ∀ p ∈ G.take j, p.1.toNat ≠ hh.toNat := fun p hp => by
      obtain ⟨i, hi, e⟩ := List.mem_iff_getElem.1 hp
      rw [List.length_take] at hi
      rw [List.getElem_take] at e
      have h1 := List.pairwise_iff_getElem.1 hprh.out i j (by omega) hj (by omega)
      rw [e, (List.getElem?_eq_some_iff.1 hGj).2] at h1
      exact Nat.ne_of_lt h1
    obtain ⟨P, hP⟩ : ∃ P, P = G.take j := ⟨_, rfl⟩
    rw [← hP] at hPl hQ hIh
    have hPh := Lib.hid hP
    clear hP
    gi_wp2
    refine ⟨Below.refl _ X, fun W2 ht => ?_⟩
    have hI2 := hIh.out.turned hkA hAB (by omega) ht
    have hT0 := hTh.out
    have hylen : y.1.length = n + 1 := (hM2h.out.1 y (by exact List.mem_of_getElem? hyi.out)).1
    have hsz : (bsS y.1).size = y.1.length := bsS_size y.1
    have htk : (bsS y.1).extract 0 1 = bsS [hh] := by
      rw [bs_take y.1 1 (by omega), hyth.out]
      rfl
    have hM1i : (0 : Int) < (M.length : Int) := by
      have := hMlh.out
      omega
    have hyl1 : (1 : Int) ≤ (y.1.length : Int) := by omega
    have hh17 : (hh.toNat : Int) < 17 := by omega
    have hh0 : (0 : Int) ≤ (hh.toNat : Int) := by omega
    have hht : ((hh.toNat : Nat) : Int).toNat = hh.toNat := by omega
    have y0W : W.cell? ⟨mb, mo, none⟩ = some (.string (bsS y.1)) := (World.cell?_of_block (a := ⟨mb, mo, none⟩) (hIh.out.bel.block mb (by omega))).symm.trans y0
    have htl : good n (tails 1 M) := by
      refine hM2h.out.tails (c := 1) [hh] fun w hw => ?_
      have h1 := (hM4h.out w hw).2
      cases hq : w.1 with
      | nil => rw [hq] at h1; cases h1
      | cons b u =>
        rw [hq] at h1
        simp only [List.head?_cons, Option.some.injEq] at h1
        rw [h1]
        rfl
    have htlne : tails 1 M ≠ [] := by
      intro e
      have h1 := congrArg List.length e
      have h2 := hMlh.out
      simp only [tails, List.length_map, List.length_nil] at h1
      omega
    have htll : (tails 1 M).length ≤ 200 := by
      rw [tails, List.length_map]
      have h1 := hM3h.out
      have h2 := hLh2.out
      omega
    have hnn := hnh.out
    have hff := hfh.out
    have cBh : Hid (∀ w2, Below k W w2 → Calls Tryz.prog 84 #[.slice (some ⟨mb, mo, none⟩) M.length mc, .int .i64 1] w2 fun e w' => ∃ u, e = .returned u ∧ lvF (fun q => w2.heap.size ≤ q) w' u (tails 1 M) ∧ Below w2.heap.size w2 w') := Lib.hid fun w2 hb =>
      behind_any (.slice (some ⟨mb, mo, none⟩) M.length mc) M 1 w2 (hvvh.out.to fun q hq _ => ⟨trivial, (hb.block q (by omega)).trans (hIh.out.bel.block q (by omega)).symm⟩) (fun w hw => by have := (hM2h.out.1 w hw).1; omega) (fun w hw => by have := (hM2h.out.1 w hw).1; omega) (by have h1 := hM3h.out; have h2 := hLh2.out; omega)
    have cGh : Hid (∀ w2 u, brR (grow f) W k A (A + 2) P hh M le ne ys cs W2 { bx0 with st := 1, u := u } w2 → Calls Tryz.prog 63 #[u] w2 fun e w4 => ∃ q, e = .returned (.pointer (some ⟨q, 0, none⟩)) ∧ brR (grow f) W k A (A + 2) P hh M le ne ys cs W2 { bx0 with st := 2, q := q } w4) := Lib.hid fun w2 u h =>
      (ihh.out n (tails 1 M) u w2 (by omega) (by omega) htl htlne htll h.m.2 (hT0.below h.reads.1 hk3) (by have := h.reads.2.2.2; omega)).mono fun e w4 ⟨q, h1, h2, h4⟩ => ⟨q, h1, h.s2 hkA hAB h4 h2⟩
    have cRh := Lib.hid fun w2 q (h : brR (grow f) W k A (A + 2) P hh M le ne ys cs W2 { bx0 with st := 2, q := q } w2) => h.s3 hk3 hkA hAB (Nat.le_trans (item_le (by omega) (grow_spec f n (tails 1 M) (by omega) htl htlne).1) (by decide : 1200 ≤ 100000)) hT0 hPl
    have hmbk : mb < k := by omega
    have hM1n : 0 < M.length := by omega
    have hyl1n : 1 ≤ y.1.length := by omega
    have hh17n : hh.toNat < 17 := by omega
    have hst0 : brR (grow f) W k A (A + 2) P hh M le ne ys cs W2 bx0 W2 := ⟨kpR.refl _ _, hI2⟩
    have hst0d : ∀ nd, brR (grow f) W k A (A + 2) P hh M le ne ys cs W2 bx0 (W2.drewN nd) := fun nd => ⟨⟨Nat.le_refl _, fun _ _ h _ => h, rfl⟩, hI2.keep hkA hAB (below_drewN (Below.refl _ _) nd) fun _ _ _ => rfl⟩
    clear hI2 hT0 htl htlne htll hnn hff y0 hy0 hylen a2 sA hst bW1
    gi_wp2
    refine wpIn_flowU (r := (some l)) (fun k => ([0, 0, 0, 0, 0, 0, 0, 0, 1, 2, 2, 2, 1, 2] : List Nat).getD k 1) (brR (grow f) W k A (A + 2) P hh M le ne ys cs W2) (fun _ => True) (bx0) (hst0d _) trivial (by kernel_rfl) (by kernel_rfl) ?_
    iterate 8 ((refine flowU_lateE rfl rfl (fun K hK => ?_); apply Exists.intro; apply And.intro; (focus (intro s0 w' hC hR; obtain ⟨pb, p0, p1, _⟩ := hR.reads; have p2 := (World.cell?_of_block (a := ⟨mb, mo, none⟩) (pb.block mb hmbk)).trans y0W; clear pb hR; go_simp; (try go_bits); exact rfl)); go_simp; (try go_bits); refine hK _ ?_; clear hK K))
    (refine flowU_readE rfl rfl (fun K hK => ?_); apply Exists.intro; apply And.intro; (focus (intro w' hR; obtain ⟨pb, p0, p1, _⟩ := hR.reads; have p2 := (World.cell?_of_block (a := ⟨mb, mo, none⟩) (pb.block mb hmbk)).trans y0W; clear pb hR; go_simp; (try go_bits); exact rfl)); go_simp; (try go_bits); refine hK _ ?_; clear hK K)
    refine flowU_step (fun v s => s = { bx0 with st := 1, u := v }) (by decide) rfl ⟨undef, _, rfl⟩ (fun w2 hR => ?_) (fun _ _ _ _ _ => trivial) (fun K hK v s2 hs2 => ?_)
    focus
      have cB := cBh.out w2 hR.reads.1
      go_simp
      exact cB.mono (by rintro e w4 ⟨u, rfl, hu, hb⟩; exact ⟨_, rfl, hR.s1 hkA hAB hb hu⟩)
    obtain rfl := hs2
    (go_simp; refine hK _ _ ?_; clear hK K)
    refine flowU_step (fun v' s => ∃ q, v' = .pointer (some ⟨q, 0, none⟩) ∧ s = { bx0 with st := 2, q := q }) (by decide) rfl ⟨_, _, 0, rfl, rfl⟩ (fun w2 hR => ?_) (fun _ _ _ _ _ => trivial) (fun K hK v s2 hs2 => ?_)
    focus
      have cG := cGh.out w2 _ hR
      go_simp
      exact cG.mono (by rintro e w4 ⟨q, rfl, h⟩; exact ⟨_, rfl, _, ⟨q, rfl, rfl⟩, h⟩)
    obtain ⟨q, rfl, rfl⟩ := hs2
    (go_simp; refine hK _ _ ?_; clear hK K)
    refine flowU_step (fun v s => ∃ b t s' le ne, v = .agg #[b, t, s'] ∧ s = { bx0 with st := 3, q := q, le := le, ne := ne, b := b, t := t, s := s' }) (by decide) rfl ⟨_, _, undef, undef, undef, undef, undef, rfl, rfl⟩ (fun w2 hR => ?_) (fun _ _ _ _ _ => trivial) (fun K hK v s2 hs2 => ?_)
    focus
      have cR := cRh.out w2 q hR
      go_simp
      exact cR.mono (by rintro e w4 ⟨b, t, s', rfl, le, ne, h⟩; exact ⟨_, rfl, _, ⟨b, t, s', rfl, le, ne, rfl⟩, h⟩)
    obtain ⟨ib, it, is, le', ne', rfl, rfl⟩ := hs2
    (go_simp; refine hK _ _ ?_; clear hK K)
    (refine flowU_readE rfl rfl (fun K hK => ?_); apply Exists.intro; apply And.intro; (focus (intro w' hR; obtain ⟨pb, p0, p1, _⟩ := hR.reads; have p2 := (World.cell?_of_block (a := ⟨mb, mo, none⟩) (pb.block mb hmbk)).trans y0W; clear pb hR; go_simp; (try go_bits); exact rfl)); go_simp; (try go_bits); refine hK _ ?_; clear hK K)
    refine flowU_step (fun v s => v = undef ∧ s = { bx0 with st := 4, q := q, le := le', ne := ne' }) (by decide) rfl ⟨_, _, rfl, rfl⟩ (fun w2 hR => ?_) (fun _ _ _ _ _ => trivial) (fun K hK v s2 hs2 => ?_)
    focus
      have h5 := hR.s4 hkA hAB (by omega) hQ
      have hI5 : brI (grow f) W k A (A + 2) _ _ _ _ _ cs w2 := hR.m.1
      have harr := hI5.arr
      have f0 := Lib.frozen_of_heap harr (hh.toNat * 3)
      have f1 := Lib.frozen_of_heap harr (hh.toNat * 3 + 1)
      have f2 := Lib.frozen_of_heap harr (hh.toNat * 3 + 2)
      obtain ⟨_, q0⟩ := brI_cells hI5 (i := hh.toNat * 3) (by omega)
      obtain ⟨_, q1⟩ := brI_cells hI5 (i := hh.toNat * 3 + 1) (by omega)
      obtain ⟨_, q2⟩ := brI_cells hI5 (i := hh.toNat * 3 + 2) (by omega)
      obtain ⟨a, c, he, _⟩ := hR.m.2.form
      simp only [Value.agg.injEq] at he
      have e := congrArg Array.toList he
      simp only [List.cons.injEq, and_true] at e
      obtain ⟨rfl, rfl, rfl⟩ := e
      clear harr hI5 hR he
      go_simp
    obtain ⟨rfl, rfl⟩ := hs2
    (go_simp; refine hK _ _ ?_; clear hK K)
    refine flowU_nil ?_
    intro W3 hR3
    gi_wp2
    obtain ⟨cs', hI3⟩ := hR3.m
    have e : G.take (j + 1) = P ++ [(hh, M)] := by rw [List.take_succ_eq_append_getElem hj, ← hPh.out, (List.getElem?_eq_some_iff.1 hGj).2]
    exact ⟨⟨hR3.kp.size, fun q o _ ho hc => hR3.kp.same q o ho hc⟩, fun o ho => hR3.kp.box ▸ ho, le', ne', _, cs', by rw [e]; exact hI3⟩
  case hdone =>
    intro D X hD hI hd
    obtain ⟨le, ne, ys, cs, hI⟩ := hI
    rw [List.take_length] at hI
    have m1 := hI.box
    have mp := Lib.cell_of_heap hI.box 0
    have mt := Lib.cell_of_heap hI.tb 0
    simp only [List.getElem?_toArray, List.getElem?_cons_zero] at mp mt
    have m0 := hI.node
    have hz := hI.siz
    clear hst bW1 a2 hT1h
    gi_wp2
    refine wpIn_flowU (r := none) (fun k => ([0, 1, 2, 1, 1, 2] : List Nat).getD k 1) (stR X k (nodeO (.bool false) (.string ⟨#[]⟩) (.slice none 0 0) (.string ⟨#[]⟩) le ne) (nodeO (.bool true) (.string ⟨#[]⟩) (.slice (some ⟨A, 0, none⟩) 17 17) (.string ⟨#[]⟩) le ne)) (fun _ => True) (false) (⟨Fr.drew (Fr.refl _ _), m0⟩) trivial (by kernel_rfl) (by kernel_rfl) ?_
    (refine flowU_lateE rfl rfl (fun K hK => ?_); apply Exists.intro; apply And.intro; (focus (intro s0 w' hC hR; have p0 := hR.fr.cell mp (by omega) (by omega); have p1 := hR.fr.cell mt (by omega) (by omega); clear hR; go_simp; (try go_bits); exact rfl)); go_simp; (try go_bits); refine hK _ ?_; clear hK K)
    (refine flowU_readE rfl rfl (fun K hK => ?_); apply Exists.intro; apply And.intro; (focus (intro w' hR; have p0 := hR.fr.cell mp (by omega) (by omega); have p1 := hR.fr.cell mt (by omega) (by omega); clear hR; go_simp; (try go_bits); exact rfl)); go_simp; (try go_bits); refine hK _ ?_; clear hK K)
    refine flowU_step (fun v s => v = .agg #[.bool true, .string ⟨#[]⟩, .slice (some ⟨A, 0, none⟩) 17 17] ∧ s = false) (by decide) rfl ⟨_, _, rfl, rfl⟩ (fun w' hR => ?_) (fun _ _ _ _ _ => trivial) (fun K hK v s2 hs2 => ?_)
    focus
      have hnow := hR.now
      simp only [Bool.false_eq_true, if_false] at hnow
      have hfr := hR.fr
      clear hR
      go_simp
      exact (List_any (some ⟨A, 0, none⟩) 17 17 w').mono (by rintro e w4 ⟨rfl, hb⟩; exact ⟨_, rfl, rfl, ⟨hfr.below hb, (hb.block k (Array.getElem?_eq_some_iff.1 hnow).1).trans hnow⟩⟩)
    obtain ⟨rfl, rfl⟩ := hs2
    (go_simp; refine hK _ _ ?_; clear hK K)
    iterate 2 ((refine flowU_readE rfl rfl (fun K hK => ?_); apply Exists.intro; apply And.intro; (focus (intro w' hR; have p0 := hR.fr.cell mp (by omega) (by omega); have p1 := hR.fr.cell mt (by omega) (by omega); clear hR; go_simp; (try go_bits); exact rfl)); go_simp; (try go_bits); refine hK _ ?_; clear hK K))
    refine flowU_step (fun v s => v = undef ∧ s = true) (by decide) rfl ⟨_, _, rfl, rfl⟩ (fun w' hR => ?_) (fun _ _ _ _ _ => trivial) (fun K hK v s2 hs2 => ?_)
    focus
      have hnow := hR.now
      simp only [Bool.false_eq_true, if_false] at hnow
      have hfr := hR.fr
      have hput := nodeO_set012 hnow (.bool true) (.string ⟨#[]⟩) (.slice (some ⟨A, 0, none⟩) 17 17)
      obtain ⟨_, qf⟩ := nodeO_cells hnow
      have f0 := qf 0
      have f1 := qf 1
      have f2 := qf 2
      clear qf
      clear hR hnow
      go_simp
      exact ⟨fr_set3 hfr _ _ _, hput⟩
    obtain ⟨rfl, rfl⟩ := hs2
    (go_simp; refine hK _ _ ?_; clear hK K)
    refine flowU_nil ?_
    intro w3 hR
    have nd3 := hR.now
    rw [if_pos rfl] at nd3
    have f3 := hR.fr
    have hs3 := f3.size
    have kW : W.heap.size ≤ k := Nat.le_of_eq hk'.out.symm
    have hN : ∀ q, brF (A + 2) le ne q → cellsAt X q → (¬ q = k ∧ W.heap.size ≤ q) ∧ w3.heap[q]? = X.heap[q]? := fun q hq hc => by
      have := hq.1
      exact ⟨⟨by omega, by omega⟩, f3.block q hc.lt (by omega)⟩
    have hitem : item (.branch (kidL (grow f) G)) = .list ((List.range 17).map (slot (kidL (grow f) G))) := by rw [item]
    have ix3 : itF (fun q => ¬ q = k ∧ W.heap.size ≤ q) w3 (item (.branch (kidL (grow f) G))) (.agg #[.bool true, .string ⟨#[]⟩, .slice (some ⟨A, 0, none⟩) 17 17]) := by
      rw [hitem]
      exact itF_arr (F := fun q => ¬ q = k ∧ W.heap.size ≤ q) ((f3.block A (by omega) (by omega)).trans hI.arr) (hI.sl.to hN) (fun _ h => h) ⟨by omega, by omega⟩ (by rw [List.length_map, List.length_range]; decide)
    have rN : ∀ {e : TypeId} {v : Value} {xs : List Value}, X.ownsRow (A + 2 + 1) e 1 v xs.length xs → rowF (fun q => ¬ q = k ∧ W.heap.size ≤ q) w3 v xs := fun h => by
      have h1 := row_lt h
      refine (rowF_own (F := fun q => A + 3 ≤ q) h fun q hq => (h1 q hq).1).to fun q hq hc => ⟨⟨by omega, by omega⟩, f3.block q hc.lt (by omega)⟩
    have le3 := rN (xs := G.map fun p => .string (bsS [p.1])) (by rw [List.length_map]; exact hI.rowL)
    have ysl : ys.length = G.length := by
      have h1 := hI.kid.length
      rw [kidL_heads, List.length_map] at h1
      exact h1
    have ne3 := rN (xs := ys) (by rw [ysl]; exact hI.rowN)
    have kd3 := hI.kid.to hN
    have b3 := f3.cell mp (by omega) (by omega)
    have hk3' : k + 1 < w3.heap.size := by omega
    have bX := hI.bel
    have hd3 := (f3.block D (Array.getElem?_eq_some_iff.1 hd).1 (by omega)).trans hd
    have h8 := hokh.out
    have hnn := hnh.out
    have hDk : ¬ D = k := by omega
    clear hR mp mt m0 m1 hN rN hI hd hitem
    gi_wp2
    refine wpIn_flowU (r := none) (fun k => ([0, 1, 1, 1, 1, 2, 1, 1, 0, 1, 1, 2] : List Nat).getD k 1) (stR w3 k (nodeO (.bool true) (.string ⟨#[]⟩) (.slice (some ⟨A, 0, none⟩) 17 17) (.string ⟨#[]⟩) le ne) (nodeO (.bool true) (.string ⟨#[]⟩) (.slice (some ⟨A, 0, none⟩) 17 17) (.string (bsS (enc (item (.branch (kidL (grow f) G)))))) le ne)) (fun _ => True) (false) (⟨Fr.drew (Fr.refl _ _), nd3⟩) trivial (by kernel_rfl) (by kernel_rfl) ?_
    (refine flowU_lateE rfl rfl (fun K hK => ?_); apply Exists.intro; apply And.intro; (focus (intro s0 w' hC hR; have p0 := hR.fr.cell b3 (by omega) hk3'; (try (have hnow := hR.now; simp only [Bool.false_eq_true, if_false] at hnow; obtain ⟨⟨n0, n1, n2, n3⟩, _⟩ := nodeO_cells hnow; clear hnow)); clear hR; go_simp; (try go_bits); exact rfl)); go_simp; (try go_bits); refine hK _ ?_; clear hK K)
    iterate 4 ((refine flowU_readE rfl rfl (fun K hK => ?_); apply Exists.intro; apply And.intro; (focus (intro w' hR; have p0 := hR.fr.cell b3 (by omega) hk3'; (try (have hnow := hR.now; simp only [Bool.false_eq_true, if_false] at hnow; obtain ⟨⟨n0, n1, n2, n3⟩, _⟩ := nodeO_cells hnow; clear hnow)); clear hR; go_simp; (try go_bits); exact rfl)); go_simp; (try go_bits); refine hK _ ?_; clear hK K))
    refine flowU_step (fun v s => v = .tuple #[.string (bsS (enc (item (.branch (kidL (grow f) G))))), .int .i64 0] ∧ s = false) (by decide) rfl ⟨_, _, rfl, rfl⟩ (fun w' hR => ?_) (fun _ _ _ _ _ => trivial) (fun K hK v s2 hs2 => ?_)
    focus
      have hnow := hR.now
      simp only [Bool.false_eq_true, if_false] at hnow
      have hfr := hR.fr
      have cE := Encode_any (item (.branch (kidL (grow f) G))) (Nat.lt_of_le_of_lt (dep_item h8) (by decide)) (Nat.le_trans (item_le hnn h8) (by decide)) _ w' (ix3.to (F' := fun _ => True) fun g hg hc => ⟨trivial, hfr.block g hc.lt hg.1⟩).v
      clear hR
      go_simp
      exact cE.mono (by rintro e w4 ⟨rfl, hb⟩; exact ⟨_, rfl, rfl, ⟨hfr.below hb, (hb.block k (Array.getElem?_eq_some_iff.1 hnow).1).trans hnow⟩⟩)
    obtain ⟨rfl, rfl⟩ := hs2
    (go_simp; refine hK _ _ ?_; clear hK K)
    iterate 2 ((refine flowU_readE rfl rfl (fun K hK => ?_); apply Exists.intro; apply And.intro; (focus (intro w' hR; have p0 := hR.fr.cell b3 (by omega) hk3'; (try (have hnow := hR.now; simp only [Bool.false_eq_true, if_false] at hnow; obtain ⟨⟨n0, n1, n2, n3⟩, _⟩ := nodeO_cells hnow; clear hnow)); clear hR; go_simp; (try go_bits); exact rfl)); go_simp; (try go_bits); refine hK _ ?_; clear hK K))
    (refine flowU_lateE rfl rfl (fun K hK => ?_); apply Exists.intro; apply And.intro; (focus (intro s0 w' hC hR; have p0 := hR.fr.cell b3 (by omega) hk3'; (try (have hnow := hR.now; simp only [Bool.false_eq_true, if_false] at hnow; obtain ⟨⟨n0, n1, n2, n3⟩, _⟩ := nodeO_cells hnow; clear hnow)); clear hR; go_simp; (try go_bits); exact rfl)); go_simp; (try go_bits); refine hK _ ?_; clear hK K)
    iterate 2 ((refine flowU_readE rfl rfl (fun K hK => ?_); apply Exists.intro; apply And.intro; (focus (intro w' hR; have p0 := hR.fr.cell b3 (by omega) hk3'; (try (have hnow := hR.now; simp only [Bool.false_eq_true, if_false] at hnow; obtain ⟨⟨n0, n1, n2, n3⟩, _⟩ := nodeO_cells hnow; clear hnow)); clear hR; go_simp; (try go_bits); exact rfl)); go_simp; (try go_bits); refine hK _ ?_; clear hK K))
    refine flowU_step (fun v s => v = undef ∧ s = true) (by decide) rfl ⟨_, _, rfl, rfl⟩ (fun w' hR => ?_) (fun _ _ _ _ _ => trivial) (fun K hK v s2 hs2 => ?_)
    focus
      have hnow := hR.now
      simp only [Bool.false_eq_true, if_false] at hnow
      have hfr := hR.fr
      obtain ⟨⟨_, _, _, n3⟩, qf⟩ := nodeO_cells hnow
      have f3 := qf 3
      clear qf
      have hput := nodeO_set3 hnow (.string (bsS (enc (item (.branch (kidL (grow f) G))))))
      clear hR hnow
      go_simp
      exact ⟨Fr.setCell (T := fun q => q = k) hfr (.inl rfl) _, hput⟩
    obtain ⟨rfl, rfl⟩ := hs2
    (go_simp; refine hK _ _ ?_; clear hK K)
    refine flowU_nil ?_
    intro w5 hR5
    have nd5 := hR5.now
    rw [if_pos rfl] at nd5
    have f5 := hR5.fr
    clear hR5 nd3
    have b5 := f5.cell b3 (by omega) hk3'
    have hs5 := f5.size
    have hd5 := (f5.block D (Array.getElem?_eq_some_iff.1 hd3).1 hDk).trans hd3
    have B5 : Below W.heap.size W w5 := fr_below (fr_below (hk'.out ▸ bX) f3 kW (by omega)) f5 kW (by omega)
    have hto : ∀ q, (¬ q = k ∧ W.heap.size ≤ q) → cellsAt w3 q → W.heap.size ≤ q ∧ w5.heap[q]? = w3.heap[q]? := fun q hq hc => ⟨hq.2, f5.block q hc.lt hq.1⟩
    gi_wp2
    refine hQQ.out _ _ _ ?_
    refine ⟨by simp, .inl ⟨_, _, rfl, run_takeDeferred hd5, _, (by simp only [results, Tryz.results63]; go_simp; try rfl), k, rfl, ?_, B5.trans (turned_below (show recTurned D w5 _ from ⟨_, _, hd5, rfl, rfl⟩) (by omega))⟩⟩
    have hfin : ndF (fun q => W.heap.size ≤ q) w5 (.branch (kidL (grow f) G)) (.pointer (some ⟨k, 0, none⟩)) := by
      rw [ndF]
      rw [kidL_heads, List.map_map]
      refine ⟨ne, ys, ⟨k, _, _, _, le, ⟨rfl, kW⟩, nd5, ix3.to hto, ?_⟩, ne3.to hto, kd3.to hto⟩
      rw [List.map_map]
      exact le3.to hto
    exact hfin.to fun q hq hcq => ⟨hq, (show recTurned D w5 _ from ⟨_, _, hd5, rfl, rfl⟩).cellsAt hcq⟩
end Go.Proofs.YtijidnhaijdfaaaGreatDoor

/- The node of leaves: grow, whatever they are. Conditions: leaves in order, paths of one length. -/
namespace Go.Proofs.YtijidnhaijdfaaaGreatDoor
open Go.RowKit
set_option linter.unusedSimpArgs false
set_option linter.unusedVariables false

theorem grow_any : ∀ f, growP f := by
  intro f
  induction f with
  | zero =>
    intro n L v W h
    omega
  | succ f ih =>
    intro n L v W hnf hn hg hne hL2 hv hT h3
    match L, hg, hne, hL2, hv with
    | [x], hg, _, _, hv =>
      rw [grow]
      exact grow_leaf f n x v W hn hg hv hT h3
    | x :: y :: l, hg, hne, hL2, hv =>
      have hsp := (grow_spec (f + 1) n (x :: y :: l) hnf hg hne).1
      have hn0 := good_two hg
      have hsh := share hg
      have hz : (x :: y :: l)[(y :: l).length]? = some ((y :: l).getLast (by simp)) := by
        rw [List.length_cons, List.getElem?_cons_succ, List.getLast_eq_getElem]
        exact List.getElem?_eq_getElem _
      rw [grow] at hsp ⊢
      generalize hzz : (y :: l).getLast (by simp) = z at *
      have hcc : ∀ c, common x.1 z.1 = c → common x.1 z.1 = c := fun _ h => h
      generalize hc : common x.1 z.1 = c at *
      cases c with
      | zero =>
        simp only at hsp ⊢
        obtain ⟨m, rfl⟩ : ∃ m, n = m + 1 := ⟨n - 1, by omega⟩
        obtain ⟨_, hup, _⟩ := kids_spec (g := grow f) (fun M hM hM0 => grow_spec f m M (by omega) hM hM0) _ (x :: y :: l) (Nat.le_refl _) hg
        exact grow_branch f (m + 1) (y :: l).length (x :: y :: l) x z v W hn hg rfl (by simp) rfl hz hc hn0 hsp hup hnf ih hL2 hv hT h3
      | succ c =>
        simp only at hsp ⊢
        exact grow_ext f n (y :: l).length (c + 1) (x :: y :: l) x z v W hn hg rfl (by simp) rfl hz hc (Nat.succ_pos c) hsh hsp hnf ih hL2 hv hT h3
end Go.Proofs.YtijidnhaijdfaaaGreatDoor

/- The node of pairs: root. Conditions: keys of one length, each once. -/
namespace Go.Proofs.YtijidnhaijdfaaaGreatDoor
open Go.RowKit
attribute [local go_sem] leftBy leaves
set_option linter.unusedSimpArgs false
set_option linter.unusedVariables false

theorem lexB_asymm : ∀ {s t : Bs}, lexB s t → lexB t s → False
  | [], [], h, _ => h.elim
  | [], _ :: _, _, h => h.elim
  | _ :: _, [], h, _ => h.elim
  | a :: s, b :: t, h1, h2 => by
    rw [lexB] at h1 h2
    rcases h1 with h1 | ⟨rfl, h1⟩
    · rcases h2 with h2 | ⟨rfl, h2⟩
      · omega
      · omega
    · rcases h2 with h2 | ⟨_, h2⟩
      · omega
      · exact lexB_asymm h1 h2
/-- Leaves out of pairs. -/
def pathsL (L : List Lf) : List Lf := L.map fun x => (halves x.1, x.2)
def leL (a b : Lf) : Bool := !Op.bytesLess b.1 a.1
def srt (P : List Lf) : List Lf := P.mergeSort leL
theorem leL_trans (a b c : Lf) (h1 : leL a b = true) (h2 : leL b c = true) : leL a c = true := by
  unfold leL at *
  simp only [Bool.not_eq_true', ← cmpL_lt] at *
  exact cmpL_swo.ntrans _ _ _ h2 h1
theorem leL_total (a b : Lf) : (leL a b || leL b a) = true := by
  unfold leL
  cases h1 : Op.bytesLess b.1 a.1
  · rfl
  · cases h2 : Op.bytesLess a.1 b.1
    · rfl
    · have := less_trans h1 h2
      rw [less_irrefl] at this
      cases this
theorem leL_lex {a b : Lf} (h : leL a b = true) (hne : a.1 ≠ b.1) : lexB a.1 b.1 := by
  unfold leL at h
  rw [Bool.not_eq_true'] at h
  rcases less_total h with e | h
  · exact absurd e.symm hne
  · exact less_lex h
theorem pair_lex {P : List Lf} (hd : (P.map (·.1)).Nodup) {L : List Lf} (hp : L.Perm P) (hs : L.Pairwise fun a b => leL a b = true) : L.Pairwise fun a b => lexB a.1 b.1 := by
  have h1 : (L.map (·.1)).Nodup := (hp.map _).nodup_iff.2 hd
  rw [List.nodup_iff_pairwise_ne, List.pairwise_map] at h1
  exact (hs.and h1).imp fun h => leL_lex h.1 h.2
theorem srt_perm (P : List Lf) : (srt P).Perm P := List.mergeSort_perm P leL
theorem srt_lex {P : List Lf} (hd : (P.map (·.1)).Nodup) : (srt P).Pairwise fun a b => lexB a.1 b.1 := pair_lex hd (srt_perm P) (List.pairwise_mergeSort leL_trans leL_total P)
theorem srt_eq {P : List Lf} (hd : (P.map (·.1)).Nodup) {L : List Lf} (hp : L.Perm P) (hs : L.Pairwise fun a b => leL a b = true) : L = srt P :=
  List.Perm.eq_of_pairwise (fun a b _ _ h1 h2 => (lexB_asymm h1 h2).elim) (pair_lex hd hp hs) (srt_lex hd) (hp.trans (srt_perm P).symm)
/-- Pairs whose keys have kl bytes, each key once. -/
structure okP (kl : Nat) (L : List Lf) : Prop where
  one : 1 ≤ kl
  top : kl ≤ 64
  all : ∀ x ∈ L, x.1.length = kl ∧ x.2 ≠ [] ∧ x.2.length ≤ 1000
  nod : (L.map (·.1)).Nodup
  len : L.length ≤ 200
theorem okP.nodup {kl : Nat} {L : List Lf} (h : okP kl L) : ((pathsL L).map (·.1)).Nodup := by
  have h1 := h.nod
  unfold pathsL
  rw [List.map_map]
  rw [List.nodup_iff_pairwise_ne, List.pairwise_map] at h1 ⊢
  exact h1.imp fun hne e => hne (halves_inj e)
theorem okP.good {kl : Nat} {L : List Lf} (h : okP kl L) : good (2 * kl) (srt (pathsL L)) := by
  refine ⟨fun x hx => ?_, srt_lex h.nodup⟩
  obtain ⟨y, hy, rfl⟩ := List.mem_map.1 ((srt_perm _).mem_iff.1 hx)
  obtain ⟨h1, h2, h3⟩ := h.all y hy
  exact ⟨by rw [halves_length, h1], nib_halves _, h2, h3⟩
theorem okP.ne {L : List Lf} (hne : L ≠ []) : srt (pathsL L) ≠ [] := fun e => by
  have h1 := (srt_perm (pathsL L)).length_eq
  rw [e, pathsL, List.length_map, List.length_nil] at h1
  exact hne (List.eq_nil_of_length_eq_zero h1.symm)
/-- The trie of pairs. -/
def trieN (kl : Nat) (L : List Lf) : Nd := grow (2 * kl + 1) (srt (pathsL L))
theorem trieN_ok {kl : Nat} {L : List Lf} (h : okP kl L) (hne : L ≠ []) : ok (2 * kl) (trieN kl L) := (grow_spec _ _ _ (Nat.lt_succ_self _) h.good (okP.ne hne)).1
theorem trieN_res {kl : Nat} {L : List Lf} (h : okP kl L) (hne : L ≠ []) (k : Bs) (hk : k.length = kl) : (∀ v, (k, v) ∈ L → res (trieN kl L) (halves k) = v) ∧ ((∀ v, (k, v) ∉ L) → res (trieN kl L) (halves k) = []) := by
  have hf := (grow_spec _ _ _ (Nat.lt_succ_self _) h.good (okP.ne hne)).2 (halves k) (by rw [halves_length, hk])
  have hm : ∀ v, (halves k, v) ∈ srt (pathsL L) ↔ (k, v) ∈ L := fun v => by
    rw [(srt_perm _).mem_iff, pathsL, List.mem_map]
    constructor
    · rintro ⟨⟨a, b⟩, hy, e⟩
      simp only [Prod.mk.injEq] at e
      obtain ⟨e1, rfl⟩ := e
      rw [← halves_inj e1]
      exact hy
    · intro hy
      exact ⟨(k, v), hy, rfl⟩
  exact ⟨fun v hv => hf.1 v ((hm v).2 hv), fun hv => hf.2 fun v hv2 => hv v ((hm v).1 hv2)⟩
theorem apB.below {W1 w' w2 : World} {B sz n : Nat} {e : TypeId} {v : Value} {xs vc : List Value} {s : ApS} (h : apB W1 B e sz v n xs vc s w') (hb : Below w'.heap.size w' w2) : apB W1 B e sz v n xs vc s w2 :=
  ⟨h.fr.below hb, fun e => row_same (h.row e) fun g _ hc => hb.block g hc.lt, fun e g hg => ⟨(h.one e g hg).1, (hb.block g (Array.getElem?_eq_some_iff.1 (h.one e g hg).2).1).trans (h.one e g hg).2⟩, fun e => row_same (h.new e) fun g _ hc => hb.block g hc.lt⟩


set_option maxRecDepth 100000 in
set_option maxHeartbeats 8000000 in
theorem root_any (kl : Nat) (v : Value) (L : List Lf) (W : World) (hp : okP kl L) (hne : L ≠ []) (hv : lvF (fun _ => True) W v L) (hT : KT W) (h3 : 3 ≤ W.heap.size) :
    Calls Tryz.prog 42 #[v] W fun e w' => ∃ q, e = .returned (.pointer (some ⟨q, 0, none⟩)) ∧ ndF (fun q => W.heap.size ≤ q) w' (trieN kl L) (.pointer (some ⟨q, 0, none⟩)) ∧ Below W.heap.size W w' := by
  obtain ⟨i0, hi, hz0, hz1, hz2⟩ := info_parts infoLf
  have hvv := hv
  obtain ⟨a, c, rfl, hc, hx⟩ := hv
  clear hx
  have hLn : L.length ≤ 200 := hp.len
  have hL1 : 1 ≤ L.length := List.length_pos_iff.2 hne
  have hk64 := hp.top
  have hph := Lib.hid hp
  have hall := Lib.hid hp.all
  have hTh := Lib.hid hT
  have h3h := Lib.hid h3
  clear hp hT hc
  go_enter Tryz.func42, Tryz.ntmps42
  go_wp2
  obtain ⟨Wo, hWo⟩ : ∃ X : World, X = W := ⟨_, rfl⟩
  go_loopw [3, 8] (fun o x wr => ∃ i : Nat, i ≤ L.length ∧ x = .int .i64 (i : Nat) ∧ wr.ownsRow W.heap.size 136 2 o i (lfC (pathsL (L.take i))) ∧ Below W.heap.size W wr) (fun o x _ => L.length - (intOf x).toNat)
  case atStart => exact ⟨0, Nat.zero_le _, rfl, World.ownsRow_nil _ _ _ _, Below.refl _ _⟩
  case round =>
    obtain ⟨i, hil, rfl, hrow, hbel⟩ := hrel
    by_cases hlt : i < L.length
    · obtain ⟨x, hx⟩ : ∃ x, L[i]? = some x := ⟨_, List.getElem?_eq_getElem hlt⟩
      have hxm := List.mem_of_getElem? hx
      have hs1 : x.1.length ≤ 64 := by
        have := (hall.out x hxm).1
        omega
      obtain ⟨bl, o, ⟨rfl, _⟩, c0, c1⟩ : ∃ bl o, (a = some ⟨bl, o, none⟩ ∧ True) ∧ wr.cell? ⟨bl, o + i * 2, none⟩ = some (.string (bsS x.1)) ∧ wr.cell? ⟨bl, o + i * 2 + 1, none⟩ = some (.string (bsS x.2)) := by
        obtain ⟨a', c', hv', _, hcell⟩ := hvv.below hbel
        obtain ⟨rfl, rfl⟩ : a = a' ∧ c = c' := by simpa using hv'
        exact hcell i x hx
      obtain ⟨va, vc, rfl, hvc1, hvc2⟩ := row_form hrow
      have hlti : (i : Int) < (L.length : Int) := by omega
      refine wp_hide fun QQ hQQ => ?_
      have hvh := Lib.hid hvv
      have hvc2h := Lib.hid hvc2
      clear hvv hvc2
      go_wp2
      have y0 : (wr.alloc (.cells #[.string (bsS x.1), .string (bsS x.2)] 36)).cell? ⟨wr.heap.size, 0, none⟩ = some (.string (bsS x.1)) := by rw [Lib.cell_of_heap (heap_new rfl)]; rfl
      have y1 : (wr.alloc (.cells #[.string (bsS x.1), .string (bsS x.2)] 36)).cell? ⟨wr.heap.size, 1, none⟩ = some (.string (bsS x.2)) := by rw [Lib.cell_of_heap (heap_new rfl)]; rfl
      have hrow5 := hrow.alloc (.cells #[.string (bsS x.1), .string (bsS x.2)] 36)
      have b5 : Below W.heap.size W (wr.alloc (.cells #[.string (bsS x.1), .string (bsS x.2)] 36)) := hbel.alloc hbel.size _
      have hTn : (Value.slice va i vc).ownBlock ≠ some wr.heap.size := fun h => by
        have := row_lt hrow _ h
        omega
      have hwB := hbel.size
      have z5 : wr.heap.size < (wr.alloc (.cells #[.string (bsS x.1), .string (bsS x.2)] 36)).heap.size := by simp
      generalize wr.alloc (.cells #[.string (bsS x.1), .string (bsS x.2)] 36) = W5 at *
      have cO := fun w => Of_any x.1 (by omega) w
      clear c0 c1 hrow
      refine wp_flowU (fun k => ([0, 1, 1, 2, 0, 0, 1, 2, 2, 1] : List Nat).getD k 1) (apB W5 W.heap.size 136 2 (.slice va i vc) i (lfC (pathsL (L.take i))) [.string (bsS (halves x.1)), .string (bsS x.2)]) (fun _ => True) (⟨none, false, false, false, 0, 0⟩) (⟨Fr.drew (Fr.refl _ _), fun _ => hrow5, fun _ g h => (by cases h), fun h => (by cases h)⟩) trivial (by kernel_rfl) (by kernel_rfl) ?_
      (refine flowU_lateE rfl rfl (fun K hK => ?_); apply Exists.intro; apply And.intro; (focus (intro s0 w' hC hR; have q0 := hR.fr.cell y0 hTn z5; have q1 := hR.fr.cell y1 hTn z5; clear hR; go_simp; (try go_bits); exact rfl)); go_simp; (try go_bits); refine hK _ ?_; clear hK K)
      iterate 2 ((refine flowU_readE rfl rfl (fun K hK => ?_); apply Exists.intro; apply And.intro; (focus (intro w' hR; have q0 := hR.fr.cell y0 hTn z5; have q1 := hR.fr.cell y1 hTn z5; clear hR; go_simp; (try go_bits); exact rfl)); go_simp; (try go_bits); refine hK _ ?_; clear hK K))
      refine flowU_step (fun v s => v = .string (bsS (halves x.1)) ∧ s = ⟨none, false, false, false, 0, 0⟩) (by decide) rfl ⟨_, _, rfl, rfl⟩ (fun w' hR => ?_) (fun _ _ _ _ _ => trivial) (fun K hK v s2 hs2 => ?_)
      focus
        go_simp
        exact (cO w').mono (by rintro e w4 ⟨rfl, hb⟩; exact ⟨_, rfl, _, ⟨rfl, rfl⟩, hR.below hb⟩)
      obtain ⟨rfl, rfl⟩ := hs2
      (go_simp; refine hK _ _ ?_; clear hK K)
      iterate 2 ((refine flowU_lateE rfl rfl (fun K hK => ?_); apply Exists.intro; apply And.intro; (focus (intro s0 w' hC hR; have q0 := hR.fr.cell y0 hTn z5; have q1 := hR.fr.cell y1 hTn z5; clear hR; go_simp; (try go_bits); exact rfl)); go_simp; (try go_bits); refine hK _ ?_; clear hK K))
      (refine flowU_readE rfl rfl (fun K hK => ?_); apply Exists.intro; apply And.intro; (focus (intro w' hR; have q0 := hR.fr.cell y0 hTn z5; have q1 := hR.fr.cell y1 hTn z5; clear hR; go_simp; (try go_bits); exact rfl)); go_simp; (try go_bits); refine hK _ ?_; clear hK K)
      refine flowU_step (fun v s => ∃ g, v = .slice (some ⟨g, 0, none⟩) 1 1 ∧ s = ⟨some g, false, false, false, 0, 0⟩) (by decide) rfl ⟨.slice (some ⟨0, 0, none⟩) 1 1, _, 0, rfl, rfl⟩ (fun w' hR => ?_) (fun _ _ _ _ _ => trivial) (fun K hK v s2 hs2 => ?_)
      focus
        have hfr := hR.fr
        have hro := hR.row rfl
        clear hR
        go_simp
        exact ⟨hfr.alloc _, fun _ => hro.alloc _, fun _ g hg => by
          obtain rfl : w'.heap.size = g := by simpa using hg
          exact ⟨hfr.size, heap_new rfl⟩, fun h => (by cases h)⟩
      obtain ⟨gz, rfl, rfl⟩ := hs2
      (go_simp; refine hK _ _ ?_; clear hK K)
      refine flowU_step (fun v s => ∃ g cap, v = .slice (some ⟨g, 0, none⟩) (i + 1) cap ∧ s = ⟨some gz, true, false, false, g, cap⟩) (by decide) rfl ⟨_, _, 0, 0, rfl, rfl⟩ (fun w' hR => ?_) (fun _ _ _ _ _ => trivial) (fun K hK v s2 hs2 => ?_)
      focus
        obtain ⟨hg1, hg2⟩ := hR.one rfl gz rfl
        have hro := hR.row rfl
        have hfr := hR.fr
        clear hR
        have hcl : ∀ j u, ([Value.string (bsS (halves x.1)), Value.string (bsS x.2)])[j]? = some u → w'.cell? ((⟨gz, 0, none⟩ : Addr).add j) = some u := fun j u hj => by
          have hg3 : w'.heap[gz]? = _ := hg2
          rw [addr_add, Lib.cell_of_heap hg3, Nat.zero_add]
          simpa using hj
        obtain ⟨v', w2, hrun, hown', hgrow, _, hloc⟩ := run_append_own_at (P := Tryz.prog) w' (W.heap.size) 134 134 136 i0 _ 2 32 Tryz.underlying134 hi hz0 hz1 hz2 rfl (by decide) _ _ _ hro ⟨gz, 0, none⟩ 1 1 ([Value.string (bsS (halves x.1)), Value.string (bsS x.2)]) rfl hcl (by simp [Value.oneCell']) (by unfold maxLen; omega) (by omega) (by have := hfr.size; omega)
        rw [append_exec (P := Tryz.prog) rfl rfl rfl hrun]
        obtain ⟨g', cap', rfl⟩ := ownsRow_succ hown'
        exact ⟨_, ⟨g', cap', rfl, rfl⟩, hfr.trans ⟨hgrow.os, hgrow.tape, hgrow.output, hgrow.size, fun k hk hT => hgrow.block k hk fun e => hT e.symm⟩, fun h => (by cases h), fun h => (by cases h), fun _ => hown'⟩
      obtain ⟨ga, capa, rfl, rfl⟩ := hs2
      (go_simp; refine hK _ _ ?_; clear hK K)
      (refine flowU_readE rfl rfl (fun K hK => ?_); apply Exists.intro; apply And.intro; (focus (intro w' hR; have q0 := hR.fr.cell y0 hTn z5; have q1 := hR.fr.cell y1 hTn z5; clear hR; go_simp; (try go_bits); exact rfl)); go_simp; (try go_bits); refine hK _ ?_; clear hK K)
      refine flowU_nil ?_
      intro W6 hR6
      have r6 := hR6.new rfl
      have f6 := hR6.fr
      clear hR6
      have e6 : lfC (pathsL (L.take (i + 1))) = lfC (pathsL (L.take i)) ++ [.string (bsS (halves x.1)), .string (bsS x.2)] := by
        rw [List.take_succ_eq_append_getElem hlt, (List.getElem?_eq_some_iff.1 hx).2]
        unfold pathsL
        rw [List.map_append]
        exact lfC_snoc _ _
      have b6 := b5.trans (f6.toBelow (n := W.heap.size) (by omega) fun q hq => (row_lt hrow5 q hq).1)
      go_wp2
      refine hQQ.out _ _ _ ?_
      simp only [Exit.then, Exit.inBlock]
      go_roundw
      case rel => exact ⟨i + 1, by omega, by go_num, by rw [e6]; exact r6, b6⟩
      case measure => simp [intOf]; omega
    · obtain rfl : i = L.length := by omega
      rw [List.take_length] at hrow
      have hl : (pathsL L).length = L.length := by unfold pathsL; rw [List.length_map]
      have hne0 : ((L.length : Int) == 0) = false := by
        rw [beq_eq_false_iff_ne]
        omega
      have hp := hph.out
      have hSl : (srt (pathsL L)).length = L.length := (srt_perm _).length_eq.trans hl
      have hwz := hbel.size
      rcases hrow.2 with ⟨_, h0⟩ | ⟨g, cap, cur, rfl, hg2, hg3, hg4, hg5, _⟩
      · omega
      · have hg3l := (Array.getElem?_eq_some_iff.1 hg3).1
        have hlf : lfR wr g 0 (pathsL L) := fun j y hj => by
          obtain ⟨a', c', hv', _, hcell⟩ := lvF_own (F := fun _ => True) (L := pathsL L) (by rw [hl]; exact hrow) (fun _ _ => trivial)
          simp only [Value.slice.injEq] at hv'
          obtain ⟨rfl, _, rfl⟩ := hv'
          obtain ⟨bl, o, ⟨e, _⟩, h1, h2⟩ := hcell j y hj
          simp only [Option.some.injEq, Addr.mk.injEq, and_true] at e
          obtain ⟨rfl, rfl⟩ := e
          exact ⟨h1, h2⟩
        have cS := sort_leaves g 0 cap (pathsL L) wr hg3l (by omega) hlf (fun j => Lib.frozen_of_heap hg3 j)
        rw [hl] at cS
        have cG : ∀ w2, lfR w2 g 0 (srt (pathsL L)) → Fr (fun q => q = g) wr w2 → Calls Tryz.prog 63 #[.slice (some ⟨g, 0, none⟩) L.length cap] w2 fun e w' => (∃ q, e = .returned (.pointer (some ⟨q, 0, none⟩)) ∧ ndF (fun q => W.heap.size ≤ q) w' (trieN kl L) (.pointer (some ⟨q, 0, none⟩))) ∧ Below W.heap.size W w' := fun w2 hr2 hf2 => by
          have hs2 := hf2.size
          refine (grow_any (2 * kl + 1) (2 * kl) (srt (pathsL L)) (.slice (some ⟨g, 0, none⟩) L.length cap) w2 (Nat.lt_succ_self _) (by omega) hp.good (okP.ne hne) (by omega) ⟨_, cap, by rw [hSl], ⟨by omega, hg5⟩, fun j y hj => ⟨g, 0, ⟨rfl, trivial⟩, hr2 j y hj⟩⟩ ((hTh.out.below hbel h3).fr hf2 fun q hq => by omega) (by omega)).mono ?_
          rintro e w4 ⟨q, rfl, hn, hb⟩
          exact ⟨⟨q, rfl, hn.to fun r hr _ => ⟨by omega, rfl⟩⟩, (fr_below hbel hf2 hg2 (by omega)).trans (hb.mono (by omega))⟩
        have cSh := Lib.hid cS
        have cGh := Lib.hid cG
        have hsq := Lib.hid fun (L' : List Lf) h1 h2 => srt_eq (L := L') hp.nodup h1 h2
        clear cS cG hlf hg2 hg3 hg4 hg5 hg3l hrow hbel hwz hp hSl hl h3
        go_wp2_with (first | (go_at_call 60; refine cSh.out.mono ?_; rintro e w2 ⟨rfl, L', hperm, hpr, hr2, hf2⟩; obtain rfl := hsq.out L' hperm (hpr.imp fun h => by unfold leL; rw [h]; rfl); have cG2 := Lib.hid (cGh.out w2 hr2 hf2); clear hr2 hf2 hpr hperm) | (go_at_call 63; refine cG2.out.mono ?_; rintro e w4 ⟨⟨q, rfl, hn⟩, hb4⟩))
        exact bodyPost_ret (v := .pointer (some ⟨q, 0, none⟩)) (by simp only [results, Tryz.results42]; go_simp; try rfl) rfl ⟨q, rfl, hn, hb4⟩
end Go.Proofs.YtijidnhaijdfaaaGreatDoor
