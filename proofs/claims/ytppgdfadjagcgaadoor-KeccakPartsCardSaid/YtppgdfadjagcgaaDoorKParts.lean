/-
  The walk of KeccakParts. Conditions: the three tables stand in their blocks.
-/
import Derived.Test.YtppgdfadjagcgaaDoorKWalks
import Derived.Test.YtppgdfadjagcgaaDoorFlow4
namespace Go.Proofs.YtppgdfadjagcgaaDoor
open Go.RowKit
attribute [local go_sem] leftBy newBy
set_option linter.unusedSimpArgs false
set_option linter.unusedVariables false

/-- What the two slices of strings hold. -/
def twoS (xs ys : List ByteArray) (t : Tmp) (v : Value) (w : World) : Prop := (t = 34 → strV w v xs) ∧ (t = 41 → strV w v ys)
theorem keeps_two {T : TypeId} {xs ys : List ByteArray} : Keeps [] (fun _ => T) (twoS xs ys) where
  below := fun t v w w' ⟨h1, h2⟩ hb => ⟨fun e => (h1 e).below hb, fun e => (h2 e).below hb⟩
  box := fun t v w b old cs d hd => absurd hd List.not_mem_nil
theorem strV_new {W : World} {a b : ByteArray} : strV (W.alloc (.cells #[.string a, .string b] 9 (0, 0))) (.slice (some ⟨W.heap.size, 0, none⟩) 2 2) [a, b] :=
  .inr ⟨_, 0, 2, rfl, Nat.le_refl _, by simp, by simp, fun j x hx => by
    match j, hx with
    | 0, hx => simp at hx; subst hx; simp
    | 1, hx => simp at hx; subst hx; simp⟩
theorem strV_one {W : World} {a : ByteArray} : strV (W.alloc (.cells #[.string a] 9 (0, 0))) (.slice (some ⟨W.heap.size, 0, none⟩) 1 1) [a] :=
  .inr ⟨_, 0, 1, rfl, Nat.le_refl _, by simp, by simp, fun j x hx => by
    match j, hx with
    | 0, hx => simp at hx; subst hx; simp⟩
theorem two_34 {xs ys : List ByteArray} {v : Value} {w : World} (h : twoS xs ys 34 v w) : strV w v xs := h.1 rfl
theorem two_41 {xs ys : List ByteArray} {v : Value} {w : World} (h : twoS xs ys 41 v w) : strV w v ys := h.2 rfl
theorem to_34 {xs ys : List ByteArray} {v : Value} {w : World} (h : strV w v xs) : twoS xs ys 34 v w := ⟨fun _ => h, fun e => absurd e (by decide)⟩
theorem to_41 {xs ys : List ByteArray} {v : Value} {w : World} (h : strV w v ys) : twoS xs ys 41 v w := ⟨fun e => absurd e (by decide), fun _ => h⟩

theorem cat_cut (s : ByteArray) (k : Nat) (hk : k ≤ s.size) : catB [s.extract 0 k, s.extract k s.size] = s := by
  refine ba_ext ?_
  rw [catB_two, ByteArray.data_append, Array.toList_append, ByteArray.data_extract, ByteArray.data_extract, Array.toList_extract, Array.toList_extract]
  simp only [List.extract_eq_take_drop, List.drop_zero, Nat.sub_zero]
  have hz : s.size = s.data.toList.length := by simp
  rw [hz, ← List.length_drop, List.take_length, List.take_append_drop]
theorem cat_none (s : ByteArray) : catB [s, ⟨#[]⟩] = s := by
  rw [catB_two]
  exact ba_ext (by simp [ByteArray.data_append])

attribute [local irreducible] digS catB twoS

set_option maxRecDepth 100000 in
set_option maxHeartbeats 8000000 in
/-- KeccakParts, the text cut already. -/
theorem walk_parts (s0 : ByteArray) (at0 : Int) (w : World) (hs0 : s0.size ≤ maxLen) (hw : 3 ≤ w.heap.size) (hT : KT w) :
    Calls Tryd.prog 4 #[.string s0, .int .i64 at0] w fun e w' => e = .returned (.bool true) ∧ Below w.heap.size w w' := by
  have hmax : maxLen = 9223372036854775807 := rfl
  obtain ⟨m, hm⟩ : ∃ m, m = min s0.size 100000 := ⟨_, rfl⟩
  have hm1 : (min (s0.size : Int) 100000).toNat = m := by omega
  have hsz : (s0.extract 0 m).size ≤ 200000 := by rw [ByteArray.size_extract]; omega
  generalize hS : s0.extract 0 m = S at hsz
  obtain ⟨q, hk⟩ : ∃ q : Nat, q = (max 0 (min at0 (S.size : Int))).toNat := ⟨_, rfl⟩
  have hk1 : max 0 (min at0 (S.size : Int)) = (q : Int) := by omega
  have hk2 : q ≤ S.size := by omega
  have hki : (q : Int) ≤ (S.size : Int) := by omega
  clear hk hm
  have hd := digS_size S
  have hA := cat_cut S q hk2
  have hB := cat_none S
  go_enter Tryd.func4, Tryd.ntmps4
  go_wp2_with (first
    | (go_at_call 5; refine (shown_any _ hw hT).mono ?_; rintro e wa ⟨rfl, hb_wa⟩; have hwa : 3 ≤ wa.heap.size := Nat.le_trans hw hb_wa.size; have hTa := hT.below hb_wa hw; have hC := catB_one S; have cS := Sum_strs _ [S] _ (strV_one (W := wa) (a := S)) (by simp) (by rw [hC]; exact hsz) (by simp; omega) (hTa.below ((Below.refl _ _).alloc (Nat.le_refl _) _) hwa))
    | (go_at_call 7; rw [hC] at cS; refine cS.mono ?_; rintro e wb ⟨rfl, hb_wb⟩; have hbel := hb_wa.trans (((Below.refl wa.heap.size wa).alloc (Nat.le_refl _) _).trans (hb_wb.mono (by simp)) |>.mono hb_wa.size)))
  have hwb : 3 ≤ wb.heap.size := Nat.le_trans hw hbel.size
  have hTb := hT.below hbel hw
  have hwz := hbel.size
  have cP := fun v W (h1 : Below wb.heap.size wb W) (hv : strV W v [S.extract 0 q, S.extract q S.size]) => Sum_strs v _ W hv (by simp) (by rw [hA]; exact hsz) (Nat.le_trans hwb h1.size) (hTb.below h1 hwb)
  have cQ := fun v W (h1 : Below wb.heap.size wb W) (hv : strV W v [S, ⟨#[]⟩]) => Sum_strs v _ W hv (by simp) (by rw [hB]; exact hsz) (Nat.le_trans hwb h1.size) (hTb.below h1 hwb)
  rw [hA] at cP
  rw [hB] at cQ
  clear hb_wa hb_wb cS
  generalize hAe : S.extract 0 q = A at *
  generalize hBe : S.extract q S.size = B at *
  clear hC hT hTa
  have hKeep : Keeps [] (fun _ => 0) ((twoS [A, B] [S, ⟨#[]⟩])) := keeps_two
  refine wp_flowM (fun k => ([1, 1, 1, 1, 1, 1, 1, 1, 1, 1, 1, 1, 1, 3, 1, 1, 1, 1, 1, 1, 3, 1, 1, 1, 1, 1] : List Nat).getD k 1) [] (fun _ => 0) [34, 41] ((twoS [A, B] [S, ⟨#[]⟩])) (fun k => if k = 13 then (fun v => ∃ g, v = .slice (some ⟨g, 0, none⟩) 2 2) else if k = 20 then (fun v => ∃ g, v = .slice (some ⟨g, 0, none⟩) 2 2) else isBox (wb.heap.size)) (fun k => ([.bool true, .bool true, .string (digS S), .int .i64 32, .bool true, .bool true, .bool true, .string S, .int .i64 (q : Nat), .string A, .string S, .int .i64 (q : Nat), .string B, undef, .string (digS S), .string (digS S), .bool true, .bool true, .bool true, .string S, undef, .string (digS S), .string (digS S), .bool true, .bool true, .bool true] : List Value).getD k undef) (fun _ => #[.int .u64 0, .int .u64 0, .int .u64 0, .int .u64 0]) (wb.heap.size) ?_ ?_ (by kernel_rfl) (by kernel_rfl) ?_ ?_
  focus (intro d hd; exact absurd hd List.not_mem_nil)
  focus (intro d hd; simp only [List.mem_cons, List.not_mem_nil, or_false] at hd; rcases hd with rfl | rfl <;> rfl)
  focus (intro k; show ∃ v, (if k = 13 then (fun v => ∃ g, v = .slice (some ⟨g, 0, none⟩) 2 2) else if k = 20 then (fun v => ∃ g, v = .slice (some ⟨g, 0, none⟩) 2 2) else isBox (wb.heap.size)) v; split; (focus (exact ⟨_, 0, rfl⟩)); (split; (focus (exact ⟨_, 0, rfl⟩)); (focus (exact ⟨_, _, Nat.le_refl _, rfl⟩))))
  (refine flowM_quiet rfl hKeep (by first | exact Nat.le_refl _ | (simp only [World.size_alloc]; omega) | omega) rfl rfl rfl (fun K hK => ⟨?_, ?_⟩); (focus (intro w' hw' hsee; clear hsee; have hc := (bcell hw').1; go_simp; (try go_bits); all_goals (first | exact ⟨rfl, Below.refl _ _⟩ | exact Below.refl _ _))); go_simp; (try go_bits); refine hK _ ?_; clear hK K)
  (refine flowM_quiet rfl hKeep (by first | exact Nat.le_refl _ | (simp only [World.size_alloc]; omega) | omega) rfl rfl rfl (fun K hK => ⟨?_, ?_⟩); (focus (intro w' hw' hsee; clear hsee; have hc := (bcell hw').1; go_simp; (try go_bits); all_goals (first | exact ⟨rfl, Below.refl _ _⟩ | exact Below.refl _ _))); go_simp; (try go_bits); refine hK _ ?_; clear hK K)
  first | (fail) | (refine flowM_quiet rfl hKeep (by first | exact Nat.le_refl _ | (simp only [World.size_alloc]; omega) | omega) rfl rfl rfl (fun K hK => ⟨?_, ?_⟩); (focus (intro w' hw' hsee; clear hsee; have hc := (bcell hw').1; go_simp; (try go_bits); all_goals (first | exact ⟨rfl, Below.refl _ _⟩ | exact Below.refl _ _))); go_simp; (try go_bits); refine hK _ ?_; clear hK K)
  first | (fail) | (refine flowM_quiet rfl hKeep (by first | exact Nat.le_refl _ | (simp only [World.size_alloc]; omega) | omega) rfl rfl rfl (fun K hK => ⟨?_, ?_⟩); (focus (intro w' hw' hsee; clear hsee; have hc := (bcell hw').1; go_simp; (try go_bits); all_goals (first | exact ⟨rfl, Below.refl _ _⟩ | exact Below.refl _ _))); go_simp; (try go_bits); refine hK _ ?_; clear hK K)
  first | (fail) | (refine flowM_quiet rfl hKeep (by first | exact Nat.le_refl _ | (simp only [World.size_alloc]; omega) | omega) rfl rfl rfl (fun K hK => ⟨?_, ?_⟩); (focus (intro w' hw' hsee; clear hsee; have hc := (bcell hw').1; go_simp; (try go_bits); all_goals (first | exact ⟨rfl, Below.refl _ _⟩ | exact Below.refl _ _))); go_simp; (try go_bits); refine hK _ ?_; clear hK K)
  (refine flowM_quiet rfl hKeep (by first | exact Nat.le_refl _ | (simp only [World.size_alloc]; omega) | omega) rfl rfl rfl (fun K hK => ⟨?_, ?_⟩); (focus (intro w' hw' hsee; clear hsee; have hc := (bcell hw').1; go_simp; (try go_bits); all_goals (first | exact ⟨rfl, Below.refl _ _⟩ | exact Below.refl _ _))); go_simp; (try go_bits); refine hK _ ?_; clear hK K)
  (refine flowM_quiet rfl hKeep (by first | exact Nat.le_refl _ | (simp only [World.size_alloc]; omega) | omega) rfl rfl rfl (fun K hK => ⟨?_, ?_⟩); (focus (intro w' hw' hsee; clear hsee; have hc := (bcell hw').1; go_simp; (try go_bits); all_goals (first | exact ⟨rfl, Below.refl _ _⟩ | exact Below.refl _ _))); go_simp; (try go_bits); refine hK _ ?_; clear hK K)
  first | (fail) | (refine flowM_quiet rfl hKeep (by first | exact Nat.le_refl _ | (simp only [World.size_alloc]; omega) | omega) rfl rfl rfl (fun K hK => ⟨?_, ?_⟩); (focus (intro w' hw' hsee; clear hsee; have hc := (bcell hw').1; go_simp; (try go_bits); all_goals (first | exact ⟨rfl, Below.refl _ _⟩ | exact Below.refl _ _))); go_simp; (try go_bits); refine hK _ ?_; clear hK K)
  first | (fail) | (refine flowM_quiet rfl hKeep (by first | exact Nat.le_refl _ | (simp only [World.size_alloc]; omega) | omega) rfl rfl rfl (fun K hK => ⟨?_, ?_⟩); (focus (intro w' hw' hsee; clear hsee; have hc := (bcell hw').1; go_simp; (try go_bits); all_goals (first | exact ⟨rfl, Below.refl _ _⟩ | exact Below.refl _ _))); go_simp; (try go_bits); refine hK _ ?_; clear hK K)
  first | (fail) | (refine flowM_quiet rfl hKeep (by first | exact Nat.le_refl _ | (simp only [World.size_alloc]; omega) | omega) rfl rfl rfl (fun K hK => ⟨?_, ?_⟩); (focus (intro w' hw' hsee; clear hsee; have hc := (bcell hw').1; go_simp; (try go_bits); all_goals (first | exact ⟨rfl, Below.refl _ _⟩ | exact Below.refl _ _))); go_simp; (try go_bits); refine hK _ ?_; clear hK K)
  first | (fail) | (refine flowM_quiet rfl hKeep (by first | exact Nat.le_refl _ | (simp only [World.size_alloc]; omega) | omega) rfl rfl rfl (fun K hK => ⟨?_, ?_⟩); (focus (intro w' hw' hsee; clear hsee; have hc := (bcell hw').1; go_simp; (try go_bits); all_goals (first | exact ⟨rfl, Below.refl _ _⟩ | exact Below.refl _ _))); go_simp; (try go_bits); refine hK _ ?_; clear hK K)
  first | (fail) | (refine flowM_quiet rfl hKeep (by first | exact Nat.le_refl _ | (simp only [World.size_alloc]; omega) | omega) rfl rfl rfl (fun K hK => ⟨?_, ?_⟩); (focus (intro w' hw' hsee; clear hsee; have hc := (bcell hw').1; go_simp; (try go_bits); all_goals (first | exact ⟨rfl, Below.refl _ _⟩ | exact Below.refl _ _))); go_simp; (try go_bits); refine hK _ ?_; clear hK K)
  first | (fail) | (refine flowM_quiet rfl hKeep (by first | exact Nat.le_refl _ | (simp only [World.size_alloc]; omega) | omega) rfl rfl rfl (fun K hK => ⟨?_, ?_⟩); (focus (intro w' hw' hsee; clear hsee; have hc := (bcell hw').1; go_simp; (try go_bits); all_goals (first | exact ⟨rfl, Below.refl _ _⟩ | exact Below.refl _ _))); go_simp; (try go_bits); refine hK _ ?_; clear hK K)
  (refine flowM_anyG rfl rfl hKeep (by first | exact Nat.le_refl _ | (simp only [World.size_alloc]; omega) | omega) rfl (fun K hK => ⟨?_, ?_⟩); (focus (intro w' hw' hsee; have hc := (bcell hw').1; clear hsee; go_simp; exact ⟨(Below.refl _ _).alloc (Nat.le_refl _) _, to_34 strV_new⟩)); (rintro v ⟨g1, rfl⟩; go_simp; (try go_bits); refine hK _ ?_; clear hK K))
  first | (fail) | (refine flowM_quiet rfl hKeep (by first | exact Nat.le_refl _ | (simp only [World.size_alloc]; omega) | omega) rfl rfl rfl (fun K hK => ⟨?_, ?_⟩); (focus (intro w' hw' hsee; have hc := (bcell hw').1; rcases hsee 34 (by simp) (of_decide_eq_true (by kernel_rfl)) with hs | hs; exact absurd hs (by intro hs; cases hs); have hv1 := two_34 hs; clear hsee; go_simp; all_goals (go_at_call 7; with_reducible refine (cP _ _ hw' hv1).mono ?_; rintro e w2 ⟨rfl, hb⟩; exact ⟨rfl, hb⟩))); go_simp; (try go_bits); refine hK _ ?_; clear hK K) | (refine flowM_quiet rfl hKeep (by first | exact Nat.le_refl _ | (simp only [World.size_alloc]; omega) | omega) rfl rfl rfl (fun K hK => ⟨?_, ?_⟩); (focus (intro w' hw' hsee; have hc := (bcell hw').1; rcases hsee 34 (by simp) (of_decide_eq_true (by kernel_rfl)) with hs | hs; exact absurd hs (by intro hs; cases hs); have hv1 := two_34 hs; clear hsee; go_simp; all_goals (go_at_call 7; refine (cP _ _ hw' hv1).mono ?_; rintro e w2 ⟨rfl, hb⟩; exact ⟨rfl, hb⟩))); go_simp; (try go_bits); refine hK _ ?_; clear hK K)
  first | (fail) | (refine flowM_quiet rfl hKeep (by first | exact Nat.le_refl _ | (simp only [World.size_alloc]; omega) | omega) rfl rfl rfl (fun K hK => ⟨?_, ?_⟩); (focus (intro w' hw' hsee; clear hsee; have hc := (bcell hw').1; go_simp; (try go_bits); all_goals (first | exact ⟨rfl, Below.refl _ _⟩ | exact Below.refl _ _))); go_simp; (try go_bits); refine hK _ ?_; clear hK K)
  first | (fail) | (refine flowM_quiet rfl hKeep (by first | exact Nat.le_refl _ | (simp only [World.size_alloc]; omega) | omega) rfl rfl rfl (fun K hK => ⟨?_, ?_⟩); (focus (intro w' hw' hsee; clear hsee; have hc := (bcell hw').1; go_simp; (try go_bits); all_goals (first | exact ⟨rfl, Below.refl _ _⟩ | exact Below.refl _ _))); go_simp; (try go_bits); refine hK _ ?_; clear hK K)
  (refine flowM_quiet rfl hKeep (by first | exact Nat.le_refl _ | (simp only [World.size_alloc]; omega) | omega) rfl rfl rfl (fun K hK => ⟨?_, ?_⟩); (focus (intro w' hw' hsee; clear hsee; have hc := (bcell hw').1; go_simp; (try go_bits); all_goals (first | exact ⟨rfl, Below.refl _ _⟩ | exact Below.refl _ _))); go_simp; (try go_bits); refine hK _ ?_; clear hK K)
  (refine flowM_quiet rfl hKeep (by first | exact Nat.le_refl _ | (simp only [World.size_alloc]; omega) | omega) rfl rfl rfl (fun K hK => ⟨?_, ?_⟩); (focus (intro w' hw' hsee; clear hsee; have hc := (bcell hw').1; go_simp; (try go_bits); all_goals (first | exact ⟨rfl, Below.refl _ _⟩ | exact Below.refl _ _))); go_simp; (try go_bits); refine hK _ ?_; clear hK K)
  first | (fail) | (refine flowM_quiet rfl hKeep (by first | exact Nat.le_refl _ | (simp only [World.size_alloc]; omega) | omega) rfl rfl rfl (fun K hK => ⟨?_, ?_⟩); (focus (intro w' hw' hsee; clear hsee; have hc := (bcell hw').1; go_simp; (try go_bits); all_goals (first | exact ⟨rfl, Below.refl _ _⟩ | exact Below.refl _ _))); go_simp; (try go_bits); refine hK _ ?_; clear hK K)
  (refine flowM_anyG rfl rfl hKeep (by first | exact Nat.le_refl _ | (simp only [World.size_alloc]; omega) | omega) rfl (fun K hK => ⟨?_, ?_⟩); (focus (intro w' hw' hsee; have hc := (bcell hw').1; clear hsee; go_simp; exact ⟨(Below.refl _ _).alloc (Nat.le_refl _) _, to_41 strV_new⟩)); (rintro v ⟨g2, rfl⟩; go_simp; (try go_bits); refine hK _ ?_; clear hK K))
  first | (fail) | (refine flowM_quiet rfl hKeep (by first | exact Nat.le_refl _ | (simp only [World.size_alloc]; omega) | omega) rfl rfl rfl (fun K hK => ⟨?_, ?_⟩); (focus (intro w' hw' hsee; have hc := (bcell hw').1; rcases hsee 41 (by simp) (of_decide_eq_true (by kernel_rfl)) with hs | hs; exact absurd hs (by intro hs; cases hs); have hv2 := two_41 hs; clear hsee; go_simp; all_goals (go_at_call 7; with_reducible refine (cQ _ _ hw' hv2).mono ?_; rintro e w2 ⟨rfl, hb⟩; exact ⟨rfl, hb⟩))); go_simp; (try go_bits); refine hK _ ?_; clear hK K) | (refine flowM_quiet rfl hKeep (by first | exact Nat.le_refl _ | (simp only [World.size_alloc]; omega) | omega) rfl rfl rfl (fun K hK => ⟨?_, ?_⟩); (focus (intro w' hw' hsee; have hc := (bcell hw').1; rcases hsee 41 (by simp) (of_decide_eq_true (by kernel_rfl)) with hs | hs; exact absurd hs (by intro hs; cases hs); have hv2 := two_41 hs; clear hsee; go_simp; all_goals (go_at_call 7; refine (cQ _ _ hw' hv2).mono ?_; rintro e w2 ⟨rfl, hb⟩; exact ⟨rfl, hb⟩))); go_simp; (try go_bits); refine hK _ ?_; clear hK K)
  first | (fail) | (refine flowM_quiet rfl hKeep (by first | exact Nat.le_refl _ | (simp only [World.size_alloc]; omega) | omega) rfl rfl rfl (fun K hK => ⟨?_, ?_⟩); (focus (intro w' hw' hsee; clear hsee; have hc := (bcell hw').1; go_simp; (try go_bits); all_goals (first | exact ⟨rfl, Below.refl _ _⟩ | exact Below.refl _ _))); go_simp; (try go_bits); refine hK _ ?_; clear hK K)
  first | (fail) | (refine flowM_quiet rfl hKeep (by first | exact Nat.le_refl _ | (simp only [World.size_alloc]; omega) | omega) rfl rfl rfl (fun K hK => ⟨?_, ?_⟩); (focus (intro w' hw' hsee; clear hsee; have hc := (bcell hw').1; go_simp; (try go_bits); all_goals (first | exact ⟨rfl, Below.refl _ _⟩ | exact Below.refl _ _))); go_simp; (try go_bits); refine hK _ ?_; clear hK K)
  (refine flowM_quiet rfl hKeep (by first | exact Nat.le_refl _ | (simp only [World.size_alloc]; omega) | omega) rfl rfl rfl (fun K hK => ⟨?_, ?_⟩); (focus (intro w' hw' hsee; clear hsee; have hc := (bcell hw').1; go_simp; (try go_bits); all_goals (first | exact ⟨rfl, Below.refl _ _⟩ | exact Below.refl _ _))); go_simp; (try go_bits); refine hK _ ?_; clear hK K)
  (refine flowM_quiet rfl hKeep (by first | exact Nat.le_refl _ | (simp only [World.size_alloc]; omega) | omega) rfl rfl rfl (fun K hK => ⟨?_, ?_⟩); (focus (intro w' hw' hsee; clear hsee; have hc := (bcell hw').1; go_simp; (try go_bits); all_goals (first | exact ⟨rfl, Below.refl _ _⟩ | exact Below.refl _ _))); go_simp; (try go_bits); refine hK _ ?_; clear hK K)
  refine flowM_nil ?_
  intro w' hw'
  obtain ⟨⟨hb2, _⟩, _⟩ := hw'
  go_wp2
  go_ret
  exact ⟨rfl, hbel.trans (hb2.mono hwz)⟩
end Go.Proofs.YtppgdfadjagcgaaDoor
