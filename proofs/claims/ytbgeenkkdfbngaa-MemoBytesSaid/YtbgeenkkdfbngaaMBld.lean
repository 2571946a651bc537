/-
  A strings.Builder of the call's own: the contracts of WriteByte, Len, String, with what stays as it was. Conditions: none.
-/
import Derived.Shelf.Strings.Builder1
import Derived.Shelf.Strings.BuilderK
import Derived.Maps.AppendAt
import Derived.Test.YtbgeenkkdfbngaaMShelf
import Derived.Test.YtbgeenkkdfbngaaKBuf
namespace Go.Proofs.Ytbgeenkkdfbngaa
open Go.RowKit Go.Shelf
attribute [local go_sem] leftBy
set_option linter.unusedSimpArgs false
set_option linter.unusedVariables false

/-- Block b is a builder whose buffer is v, of the bytes xs; p: what it knows of its place. -/
def bldP (w : World) (b : Nat) (p v : Value) (xs : List Value) : Prop :=
  w.heap[b]? = some (.cells #[p, v] 54 (0, 0)) ∧ w.ownsRow b 5 1 v xs.length xs ∧ v.ownBlock ≠ some b
def bld (w : World) (b : Nat) (v : Value) (xs : List Value) : Prop := bldP w b (.pointer none) v xs ∨ bldP w b (.pointer (some ⟨b, 0, none⟩)) v xs

theorem bld.is {w : World} {b : Nat} {v : Value} {xs : List Value} (h : bld w b v xs) : Lib.IsBuilder 54 5 b b xs w := by
  rcases h with ⟨h1, h2, h3⟩ | ⟨h1, h2, h3⟩
  · exact .inl ⟨Nat.le_refl _, v, h1, h2, h3⟩
  · exact .inr ⟨Nat.le_refl _, v, h1, h2, h3⟩
theorem bldP.lt {w : World} {b : Nat} {p v : Value} {xs : List Value} (h : bldP w b p v xs) : b < w.heap.size := (Array.getElem?_eq_some_iff.1 h.1).1
theorem bldP.own_lt {w : World} {b : Nat} {p v : Value} {xs : List Value} (h : bldP w b p v xs) : ∀ k, v.ownBlock = some k → b < k ∧ k < w.heap.size := by
  intro k hk
  have h1 := h.2.1.lt k hk
  have h2 : k ≠ b := fun e => h.2.2 (by rw [hk, e])
  omega
theorem bldP.own_cells {w : World} {b : Nat} {p v : Value} {xs : List Value} (h : bldP w b p v xs) : ∀ k o, v.ownBlock = some k → w.heap[k]? = some o → o.isCells = true := by
  intro k o hk ho
  rcases h.2.1.2 with ⟨rfl, _⟩ | ⟨g, cap, cur, rfl, _, hg, _⟩
  · cases hk
  · obtain rfl : g = k := by simpa [Value.ownBlock] using hk
    rw [hg] at ho
    cases ho
    rfl

theorem cc_any {w : World} {b : Nat} {v : Value} {xs : List Value} (h : bld w b v xs) :
    Calls Try.prog 44 #[.pointer (some ⟨b, 0, none⟩)] w fun e w' => e = .returned (.tuple #[]) ∧ bldP w' b (.pointer (some ⟨b, 0, none⟩)) v xs ∧ w.grownBy w' (some b) := by
  rcases h with h | h
  · have hc : w.cell? ⟨b, 0, none⟩ = some (.pointer none) := by rw [Lib.cell_of_heap h.1]; rfl
    have hs : w.shape? b = some (54, 2) := by simp [World.shape?, h.1]
    have hf : w.frozen? ⟨b, 0, none⟩ = false := Lib.frozen_of_heap h.1 0
    refine (Any.Builder_copyCheck_fresh (ρ := lays105_ren) { lays105 with } Builder_Extra_105.toX72 b w hc hs hf).mono ?_
    rintro e w' ⟨rfl, rfl⟩
    have hg := grownBy_setCell' w b (.pointer (some ⟨b, 0, none⟩))
    refine ⟨rfl, ⟨?_, h.2.1.kept hg (.inr h.2.2), h.2.2⟩, hg⟩
    have := setCell_at h.1 0 (.pointer (some ⟨b, 0, none⟩))
    rw [this]
    rfl
  · have hc : w.cell? ⟨b, 0, none⟩ = some (.pointer (some ⟨b, 0, none⟩)) := by rw [Lib.cell_of_heap h.1]; rfl
    refine (Any.Builder_copyCheck_used (ρ := lays105_ren) { lays105 with } Builder_Extra_105.toX72 b w hc).mono ?_
    rintro e w' ⟨rfl, rfl⟩
    exact ⟨rfl, h, ⟨rfl, rfl, rfl, Nat.le_refl _, fun _ _ _ => rfl⟩⟩

theorem Len_any {w : World} {b : Nat} {v : Value} {xs : List Value} (h : bld w b v xs) :
    Calls Try.prog 33 #[.pointer (some ⟨b, 0, none⟩)] w fun e w' => e = .returned (.int .i64 (xs.length : Nat)) ∧ w' = w :=
  Any.Builder_Len (ρ := lays105_ren) { lays105 with } b b xs w h.is

theorem String_any {w : World} {b : Nat} {v : Value} {l : List UInt8} (h : bld w b v (Lib.byteCells l)) :
    Calls Try.prog 35 #[.pointer (some ⟨b, 0, none⟩)] w fun e w' => e = .returned (.string ⟨l.toArray⟩) ∧ Below b w w' :=
  Any.Builder_String_any (ρ := lays105_ren) { lays105 with } Builder_Extra_105 b b l w h.is (by rcases h with h | h <;> exact Nat.le_of_lt h.lt)

/-- String; whatever is no cells stays as it was. -/
theorem String_kept {w : World} {b : Nat} {v : Value} {l : List UInt8} (h : bld w b v (Lib.byteCells l)) (h0 : l ≠ []) :
    Calls Try.prog 35 #[.pointer (some ⟨b, 0, none⟩)] w fun e w' => e = .returned (.string ⟨l.toArray⟩) ∧ Below b w w' ∧ ∀ (j : Nat) (o : Obj), w.heap[j]? = some o → o.isCells = false → w'.heap[j]? = some o := by
  refine (Any.Builder_String_k (ρ := lays105_ren) { lays105 with } Builder_Extra_105 b b l w (Lib.IsBuilderF.of h.is) h0).mono ?_
  rintro e w' ⟨rfl, _, hb, hk⟩
  refine ⟨rfl, hb, fun j o hj ho => hk j o hj (fun e => ?_) (fun c fz e => ?_)⟩
  · obtain rfl : j = b := by simpa using e
    have h1 : ∃ p, bldP w j p v (Lib.byteCells l) := by rcases h with h | h <;> exact ⟨_, h⟩
    obtain ⟨p, h1⟩ := h1
    rw [h1.1] at hj
    cases hj
    cases ho
  · subst e
    cases ho

/-- What a write leaves: whatever was and is neither the builder nor its buffer is as it was; the buffer is the old one or new. -/
structure wrote (b : Nat) (v v' : Value) (w w' : World) : Prop where
  below : Below b w w'
  block : ∀ k, k < w.heap.size → k ≠ b → v.ownBlock ≠ some k → w'.heap[k]? = w.heap[k]?
  own : ∀ k, v'.ownBlock = some k → v.ownBlock = some k ∨ w.heap.size ≤ k

theorem grown_set (W : World) (a : Addr) (v : Value) : W.grownBy (W.setCell a v) (some a.block) :=
  ⟨rfl, rfl, rfl, (KeepsWalks.setCell W _ v).size, fun k _ hk => Below.heap_setCell _ _ _ k (fun e => hk (by rw [e]))⟩

theorem info8 : (Try.prog.info? 5).map (fun i => (i.zero, i.size, i.bytes)) = some (some (.int .u8 0), 1, 1) := by kernel_rfl

set_option maxRecDepth 100000 in
set_option maxHeartbeats 2000000 in
theorem WriteByte_any {w : World} {b : Nat} {v : Value} {xs : List Value} (h : bld w b v xs) (c : Int) (hl : xs.length ≤ 1000000) :
    Calls Try.prog 34 #[.pointer (some ⟨b, 0, none⟩), .int .u8 c] w fun e w' => e = .returned .nilIface ∧ ∃ v', bldP w' b (.pointer (some ⟨b, 0, none⟩)) v' (xs ++ [.int .u8 c]) ∧ wrote b v v' w w' := by
  obtain ⟨i0, hi, hz0, hz1, hz2⟩ := info_parts info8
  go_enter Try.func34, Try.ntmps34
  go_wp2_with (first | (go_at_call 44; refine (cc_any h).mono ?_; rintro e w1 ⟨rfl, h1, hg1⟩; obtain ⟨hb1, hown, hne⟩ := h1; have hc1 : w1.cell? ⟨b, 1, none⟩ = some v := (by rw [Lib.cell_of_heap hb1]; rfl); have hlt := (Array.getElem?_eq_some_iff.1 hb1).1) | (at_builtin; refine wpList_append_own_at _ rfl _ _ 51 rfl b 5 i0 (.int .u8 0) 1 1 Try.underlying51 hi hz0 hz1 hz2 rfl (by decide) v xs.length xs rfl (hown.alloc _) ⟨w1.heap.size, 0, none⟩ 1 1 [.int .u8 c] rfl rfl (cell_one_new _ _ _) (by simp [Value.oneCell']) (by unfold maxLen; omega) (by omega) (by simp; omega) ?_; intro v' w2 hown' hgrow _ hloc; obtain ⟨g, cap, rfl⟩ := ownsRow_succ hown'; have hb2 : w2.heap[b]? = some (.cells #[.pointer (some ⟨b, 0, none⟩), v] 54 (0, 0)) := (hgrow.block b (by simp; omega) (fun e => hne e.symm)).trans ((Below.heap_alloc w1 _ b hlt).trans hb1); have hd1 : w2.cell? ⟨b, 1, none⟩ = some v := (by rw [Lib.cell_of_heap hb2]; rfl); have hf1 : w2.frozen? ⟨b, 1, none⟩ = false := Lib.frozen_of_heap hb2 1))
  go_ret
  have hlt2 : b < w2.heap.size := (Array.getElem?_eq_some_iff.1 hb2).1
  have hgs := grown_set w2 ⟨b, 1, none⟩ (.slice (some ⟨g, 0, none⟩) (xs.length + 1) cap)
  have hloc2 : v.ownBlock = some g ∨ g = w1.heap.size + 1 := by
    rcases hloc with e | e
    · exact .inl e.symm
    · exact .inr (by simpa [Value.ownBlock] using e)
  have hgb : g ≠ b := by
    rcases hloc2 with e | e
    · rintro rfl
      exact hne e
    · omega
  have hs1 := hg1.size
  refine ⟨rfl, .slice (some ⟨g, 0, none⟩) (xs.length + 1) cap, ⟨?_, ?_, ?_⟩, ?_, ?_, ?_⟩
  · rw [setCell_at hb2 1 _]
    rfl
  · have := hown'.kept hgs (.inr (fun e => hgb (by simpa [Value.ownBlock] using e)))
    simpa using this
  · intro e
    exact hgb (by simpa [Value.ownBlock] using e)
  · have hlt0 : b < w.heap.size := by rcases h with h | h <;> exact h.lt
    refine ((((Below.refl b w).grown hg1 (Nat.le_of_lt hlt0) (fun k e => by cases e; exact Nat.le_refl _)).alloc (Nat.le_of_lt hlt) _).grown hgrow (by simp; omega) (fun k hk => (hown.lt k hk).1)).setCell (p := ⟨b, 1, none⟩) (Nat.le_refl _) _
  · intro k hk hkb hkv
    rw [hgs.block k (by have := hgrow.size; simp at this; omega) (fun e => hkb (by simpa using e)), hgrow.block k (by simp; omega) (fun e => hkv e.symm), Below.heap_alloc w1 _ k (by omega), hg1.block k hk (fun e => hkb (by simpa using e))]
  · intro k hk
    have hk : k = g := by simpa [Value.ownBlock] using hk.symm
    subst hk
    rcases hloc2 with e | e
    · exact .inl e
    · exact .inr (by omega)
end Go.Proofs.Ytbgeenkkdfbngaa
