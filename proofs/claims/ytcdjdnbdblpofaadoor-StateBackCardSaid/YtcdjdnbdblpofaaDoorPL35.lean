/-
  What waits for what in a region, in one table: for regions of many operations. Conditions: none.
-/
import Derived.Test.YtcdjdnbdblpofaaDoorPL1
namespace Go.Proofs.YtcdjdnbdblpofaaDoor
open Go.RowKit
set_option linter.unusedVariables false

section
variable {P : Program} {ops : Array Oper} {σ : Type} {R : σ → World → Prop} {C : σ → Prop}

theorem waitsT_succ : ∀ (n j i : Nat), waitsT ops n j i = true → waitsT ops (n + 1) j i = true
  | 0, j, i, h => by
    show (waitsB ops j i || _) = true
    rw [show waitsB ops j i = true from h]
    rfl
  | n + 1, j, i, h => by
    have h' : (waitsB ops j i || match ops[j]? with
      | some oj => oj.after.any fun e => Region.binds .any e && waitsT ops n e.on i
      | none => false) = true := h
    show (waitsB ops j i || match ops[j]? with
      | some oj => oj.after.any fun e => Region.binds .any e && waitsT ops (n + 1) e.on i
      | none => false) = true
    rw [Bool.or_eq_true] at h' ⊢
    rcases h' with h' | h'
    · exact .inl h'
    · refine .inr ?_
      split at h'
      · rename_i oj hj
        obtain ⟨e, he, hb⟩ := Array.any_eq_true'.1 h'
        simp only [Bool.and_eq_true] at hb
        refine Array.any_eq_true'.2 ⟨e, he, ?_⟩
        simp only [Bool.and_eq_true]
        exact ⟨hb.1, waitsT_succ n e.on i hb.2⟩
      · cases h'
theorem waitsT_le {n m j i : Nat} (hnm : n ≤ m) (h : waitsT ops n j i = true) : waitsT ops m j i = true := by
  induction m with
  | zero =>
    obtain rfl : n = 0 := by omega
    exact h
  | succ m ih =>
    rcases Nat.lt_or_ge m n with hl | hl
    · obtain rfl : n = m + 1 := by omega
      exact h
    · exact waitsT_succ m j i (ih hl)

/-- A number, worked out first. -/
def forceN (n : Nat) (f : Nat → Bool) : Bool := Nat.rec (motive := fun _ => Bool) (f 0) (fun m _ => f (m + 1)) n
theorem forceN_eq (n : Nat) (f : Nat → Bool) : forceN n f = f n := by cases n <;> rfl
/-- What operation k waits for, as bits; T: the rows of those ahead of it, the last first. -/
def rowM (ops : Array Oper) (T : List Nat) (k : Nat) : Nat := match ops[k]? with
  | some o => o.after.toList.foldl (fun acc e => if (Region.binds .any e && decide (e.on < k)) = true then acc ||| (2 ^ e.on ||| T.getD (k - 1 - e.on) 0) else acc) 0
  | none => 0
def goM (ops : Array Oper) (fin : List Nat → Bool) : Nat → Nat → List Nat → Bool
  | 0, _, T => fin T
  | f + 1, k, T => forceN (rowM ops T k) fun r => goM ops fin f (k + 1) (r :: T)
def orderM (kd : Nat → Nat) (n : Nat) (T : List Nat) : Bool :=
  (List.range n).all fun e => kd e == 0 || kd e == 1 || forceN (T.getD (n - 1 - e) 0) fun r => (List.range n).all fun j => kd j == 0 || j == e || (decide (j < e) && r.testBit j) || (decide (e < j) && (T.getD (n - 1 - j) 0).testBit e)
def closeM (kd : Nat → Nat) (n : Nat) (T : List Nat) : Bool :=
  (List.range n).all fun e => kd e != 4 || forceN (T.getD (n - 1 - e) 0) fun r => (List.range n).all fun j => kd j != 0 || r.testBit j
def GoodT (ops : Array Oper) (T : List Nat) (k : Nat) : Prop := ∀ j, j < k → ∀ i, (T.getD (k - 1 - j) 0).testBit i = true → waitsT ops j j i = true

theorem row_fold {T : List Nat} {k i : Nat} : ∀ (l : List Edge) (acc : Nat), (l.foldl (fun acc e => if (Region.binds .any e && decide (e.on < k)) = true then acc ||| (2 ^ e.on ||| T.getD (k - 1 - e.on) 0) else acc) acc).testBit i = true →
    acc.testBit i = true ∨ ∃ e ∈ l, Region.binds .any e = true ∧ e.on < k ∧ (e.on = i ∨ (T.getD (k - 1 - e.on) 0).testBit i = true)
  | [], acc, h => .inl h
  | e :: l, acc, h => by
    rw [List.foldl_cons] at h
    rcases row_fold l _ h with h | ⟨e', he', h'⟩
    · split at h
      · rename_i hb
        simp only [Bool.and_eq_true, decide_eq_true_eq] at hb
        simp only [Nat.testBit_or, Nat.testBit_two_pow, Bool.or_eq_true, decide_eq_true_eq] at h
        rcases h with h | h | h
        · exact .inl h
        · exact .inr ⟨e, List.mem_cons_self .., hb.1, hb.2, .inl h⟩
        · exact .inr ⟨e, List.mem_cons_self .., hb.1, hb.2, .inr h⟩
      · exact .inl h
    · exact .inr ⟨e', List.mem_cons_of_mem _ he', h'⟩
theorem row_good {T : List Nat} {k : Nat} (hT : GoodT ops T k) {i : Nat} (h : (rowM ops T k).testBit i = true) : waitsT ops k k i = true := by
  unfold rowM at h
  split at h
  · rename_i o ho
    rcases row_fold _ _ h with h | ⟨e, he, hb, hlt, hx⟩
    · simp at h
    · obtain ⟨k', rfl⟩ : ∃ k', k = k' + 1 := ⟨k - 1, by omega⟩
      show (waitsB ops (k' + 1) i || match ops[k' + 1]? with
        | some oj => oj.after.any fun e => Region.binds .any e && waitsT ops k' e.on i
        | none => false) = true
      rw [ho, Bool.or_eq_true]
      have hm : e ∈ o.after := Array.mem_toList_iff.1 he
      rcases hx with hx | hx
      · refine .inl ?_
        unfold waitsB
        rw [ho]
        refine Array.any_eq_true'.2 ⟨e, hm, ?_⟩
        simp only [Bool.and_eq_true, beq_iff_eq]
        exact ⟨hb, hx⟩
      · refine .inr (Array.any_eq_true'.2 ⟨e, hm, ?_⟩)
        simp only [Bool.and_eq_true]
        exact ⟨hb, waitsT_le (by omega) (hT e.on hlt i hx)⟩
  · simp at h
theorem goM_good {fin : List Nat → Bool} : ∀ (f k : Nat) (T : List Nat), GoodT ops T k → goM ops fin f k T = true → ∃ T', GoodT ops T' (k + f) ∧ fin T' = true
  | 0, k, T, hT, h => ⟨T, hT, h⟩
  | f + 1, k, T, hT, h => by
    have h' : forceN (rowM ops T k) (fun r => goM ops fin f (k + 1) (r :: T)) = true := h
    rw [forceN_eq] at h'
    have := goM_good f (k + 1) _ (fun j hj i hi => by
      rcases Nat.lt_or_ge j k with hl | hl
      · rw [show k + 1 - 1 - j = (k - 1 - j) + 1 by omega, List.getD_cons_succ] at hi
        exact hT j hl i hi
      · obtain rfl : j = k := by omega
        rw [show j + 1 - 1 - j = 0 by omega, List.getD_cons_zero] at hi
        exact row_good hT hi) h'
    rw [show k + (f + 1) = k + 1 + f by omega]
    exact this
/-- The table's own test. -/
def flowM (ops : Array Oper) (kd : Nat → Nat) : Bool := goM ops (fun T => orderM kd ops.size T && closeM kd ops.size T) ops.size 0 []
theorem flowM_spec {kd : Nat → Nat} (h : flowM ops kd = true) : orderT ops kd = true ∧ closeT ops kd = true := by
  obtain ⟨T, hT, hf⟩ := goM_good _ _ _ (fun j hj => absurd hj (Nat.not_lt_zero _)) h
  rw [Nat.zero_add] at hT
  rw [Bool.and_eq_true] at hf
  constructor
  · unfold orderT
    have h1 := List.all_eq_true.1 hf.1
    refine List.all_eq_true.2 fun e he => ?_
    have h2 := h1 e he
    rw [forceN_eq] at h2
    rw [Bool.or_eq_true] at h2 ⊢
    rcases h2 with h2 | h2
    · exact .inl h2
    · refine .inr (List.all_eq_true.2 fun j hj => ?_)
      have h3 := List.all_eq_true.1 h2 j hj
      have hen := List.mem_range.1 he
      have hjn := List.mem_range.1 hj
      simp only [Bool.or_eq_true, Bool.and_eq_true, decide_eq_true_eq] at h3 ⊢
      rcases h3 with (h3 | h3) | h3
      · exact .inl (.inl h3)
      · exact .inl (.inr ⟨h3.1, waitsT_le (by omega) (hT e hen j h3.2)⟩)
      · exact .inr ⟨h3.1, waitsT_le (by omega) (hT j hjn e h3.2)⟩
  · unfold closeT
    have h1 := List.all_eq_true.1 hf.2
    refine List.all_eq_true.2 fun e he => ?_
    have h2 := h1 e he
    rw [forceN_eq] at h2
    rw [Bool.or_eq_true] at h2 ⊢
    rcases h2 with h2 | h2
    · exact .inl h2
    · refine .inr (List.all_eq_true.2 fun j hj => ?_)
      have h3 := List.all_eq_true.1 h2 j hj
      rw [Bool.or_eq_true] at h3 ⊢
      rcases h3 with h3 | h3
      · exact .inl h3
      · exact .inr (waitsT_le (by have := List.mem_range.1 he; omega) (hT e (List.mem_range.1 he) j h3))
theorem wp_flowM {id : Nat} {Q : Exit → Act → World → Prop} {a : Act} {w : World} {l : List Oper} (kd : Nat → Nat) (R : σ → World → Prop) (C : σ → Prop) (s : σ) (h0 : R s w.drew) (h00 : C s) (hm : P.follows .mixedOrders = true)
    (hB : (Region.lexB .any l.toArray && (noDeferB l.toArray && flowM l.toArray kd)) = true) (h : flowU P l.toArray R C kd (fun a' s2 => ∀ w', R s2 w' → Q .normal a' w') 0 l a s) : (Code.region id l.toArray true).wp P Q a w := by
  simp only [Bool.and_eq_true] at hB
  obtain ⟨h1, h2, h3⟩ := hB
  obtain ⟨h4, h5⟩ := flowM_spec h3
  exact wp_flowU kd R C s h0 h00 hm (by rw [h1, h4, h2, h5]; rfl) h
end
end Go.Proofs.YtcdjdnbdblpofaaDoor
