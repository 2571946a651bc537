/-
  A range over a function whose body writes boxes of its own alone: one law. Conditions: none.
-/
import Derived.RangeFuncNested
import Derived.RangeFuncBound
import Derived.RangeFuncCalls
import Derived.RangeFuncLeaves
import Derived.Test.YtijidnhaijdfaaaGreatDoorFlow
import Derived.Test.YtijidnhaijdfaaaGreatDoorBase
namespace Go.Proofs.YtijidnhaijdfaaaGreatDoor
open Go.RowKit

/-- W' is W, but for blocks of T and for new ones. -/
structure Fr (T : Nat → Prop) (W W' : World) : Prop where
  os : W'.os = W.os
  tape : W'.tape = W.tape
  output : W'.output = W.output
  size : W.heap.size ≤ W'.heap.size
  block : ∀ k, k < W.heap.size → ¬ T k → W'.heap[k]? = W.heap[k]?

theorem Fr.refl (T : Nat → Prop) (W : World) : Fr T W W := ⟨rfl, rfl, rfl, Nat.le_refl _, fun _ _ _ => rfl⟩
theorem Fr.trans {T : Nat → Prop} {A B C : World} (h : Fr T A B) (k : Fr T B C) : Fr T A C :=
  ⟨k.os.trans h.os, k.tape.trans h.tape, k.output.trans h.output, Nat.le_trans h.size k.size, fun i hi hT => (k.block i (Nat.lt_of_lt_of_le hi h.size) hT).trans (h.block i hi hT)⟩
theorem Fr.drew {T : Nat → Prop} {A W : World} (h : Fr T A W) : Fr T A W.drew := ⟨h.os, h.tape, h.output, h.size, h.block⟩
theorem Fr.drewN {T : Nat → Prop} {A W : World} (h : Fr T A W) (n : Nat) : Fr T A (W.drewN n) := ⟨h.os, h.tape, h.output, h.size, h.block⟩
theorem Fr.alloc {T : Nat → Prop} {A W : World} (h : Fr T A W) (o : Obj) : Fr T A (W.alloc o) :=
  h.trans ⟨rfl, rfl, rfl, by simp, fun k hk _ => Below.heap_alloc _ _ _ hk⟩
theorem Fr.setCell {T : Nat → Prop} {A W : World} (h : Fr T A W) {p : Addr} (hp : T p.block ∨ A.heap.size ≤ p.block) (u : Value) : Fr T A (W.setCell p u) :=
  ⟨h.os, h.tape, h.output, by simpa [World.setCell] using h.size, fun k hk hT => by
    rw [Below.heap_setCell _ _ _ _ (by rintro rfl; rcases hp with hp | hp; exact hT hp; omega)]
    exact h.block k hk hT⟩
theorem Fr.below {T : Nat → Prop} {A W W' : World} (h : Fr T A W) (hb : Below W.heap.size W W') : Fr T A W' :=
  h.trans ⟨hb.os, hb.tape, hb.output, hb.size, fun k hk _ => hb.block k hk⟩
theorem Fr.toBelow {T : Nat → Prop} {W W' : World} {n : Nat} (h : Fr T W W') (hn : n ≤ W.heap.size) (hT : ∀ k, T k → n ≤ k) : Below n W W' :=
  ⟨h.os, h.tape, h.output, h.size, fun k hk => h.block k (by omega) (fun ht => by have := hT k ht; omega)⟩

/-- Blocks A and B lie as they lay. -/
def KB (A B : Nat) (W W' : World) : Prop := W'.heap[A]? = W.heap[A]? ∧ W'.heap[B]? = W.heap[B]?

theorem range_fr {α : Type} {P : Program} {n : Nat} {g : Operand} {ps : Array Tmp} {assign body : Code} {Q : Exit → Act → World → Prop} {a : Act} {w : World} (h1 : 1 ≤ n) {gf : Nat} {lb : Array Value} (hg : a.eval g = .func (.func gf) #[] lb)
    (eg : ∀ args w, (callFunc gf args).run P w = .ok (.enter gf args) w) {encs : α → Array Value} {A Bs : Nat} {S Sp : List α → Prop} {N : Nat} (hseq : SeqStopsK (FW none) (n - 1) P gf lb encs (KB A Bs) S Sp N w)
    (hps : ∀ x, (encs x).size = ps.size) (T : Nat → Prop) (hT : ∀ k, T k → k < w.heap.size) (hA : ¬ T A) (hBs : ¬ T Bs) (hA' : A < w.heap.size) (hBs' : Bs < w.heap.size)
    (C : List α → World → Prop) (hC : ∀ pre W W', C pre W → (∀ k, T k → W'.heap[k]? = W.heap[k]?) → C pre W') (h0 : C [] w) (f : α → Act → Act)
    (hassign : ∀ (l : Nat) (x : α) (W : World) (K : Act → World → Prop), K (f x a) W →
      assign.wpIn (FW (some l)) (n - 1 - 1) P (Exit.then K (fun _ _ _ => False)) { tmps := (ps.zip (encs x)).foldl (fun t (p, v) => t.setIfInBounds p v) a.tmps, defers := [] } W)
    (hbody : ∀ (l : Nat) (pre : List α) (x : α) (W : World), C pre W → Fr T w W → pre.length < N → body.wpIn (FW (some l)) (n - 1 - 1) P (fun e _ W' => e = .normal ∧ Fr T W W' ∧ C (pre ++ [x]) W') (f x a) W)
    (hdone : ∀ (D : Nat) (xs : List α) (W : World), S xs → C xs W → Fr T w W → W.heap[D]? = some (.deferred (some [])) → w.heap.size ≤ D → Q .normal { a with defers := { target := .collected D, args := #[] } :: a.defers } W) :
    (Code.rangeFunc g ps assign body).wpIn (FW none) n P Q a w := by
  refine wpIn_rangeFunc_ownG (F := FW none) rfl h1 hg trivial eg hseq (fun h k => ⟨k.1.trans h.1, k.2.trans h.2⟩) (fun W l o o' hl h _ _ => ⟨World.putObj_heap_other (by omega), World.putObj_heap_other (by omega)⟩) (Below.refl _ _) hps
    (fun pre W => C pre W ∧ Fr T w W) (fun _ _ _ => False) ?_ (fun _ _ _ _ _ hs _ _ => hs) ⟨h0, Fr.refl _ _⟩ (fun x => f x a) (fun l x W K hK => hassign l x W K hK) ?_ ?_ (fun _ _ _ _ _ _ h _ => h.elim)
  · rintro pre X Y row ⟨hs, hf⟩ hgr hr
    have same : ∀ k, k < w.heap.size → Y.heap[k]? = X.heap[k]? := fun k hk => hgr.block k (Nat.lt_of_lt_of_le hk hf.size) (fun e => by have := (hr k e.symm).1; omega)
    exact ⟨hC _ _ _ hs fun k hk => same k (hT k hk), ⟨hgr.os.trans hf.os, hgr.tape.trans hf.tape, hgr.output.trans hf.output, Nat.le_trans hf.size hgr.size, fun k hk hTk => (same k hk).trans (hf.block k hk hTk)⟩⟩
  · rintro l pre x W ⟨hs, hf⟩ hlen
    refine wpIn_mono (hbody l pre x W hs hf hlen) ?_
    rintro e a' W' ⟨rfl, hfr, hc⟩
    refine ⟨⟨hfr.size, fun k o hk hko _ => (hfr.block k (Array.getElem?_eq_some_iff.1 hko).1 (fun ht => by have := hT k ht; omega)).trans hko⟩, ⟨?_, ?_⟩, hc, hf.trans hfr⟩
    · exact hfr.block A (Nat.lt_of_lt_of_le hA' hf.size) hA
    · exact hfr.block Bs (Nat.lt_of_lt_of_le hBs' hf.size) hBs
  · rintro D xs W hD hs ⟨hc, hf⟩ hK
    exact hdone D xs W hs hc hf hK hD

theorem heap_new {w : World} {o : Obj} {k : Nat} (h : k = w.heap.size) : (w.alloc o).heap[k]? = some o := by
  subst h
  exact World.alloc_heap_new w o
theorem heap_old {w : World} {o : Obj} {k : Nat} {r : Option Obj} (h : k < w.heap.size) (hr : w.heap[k]? = r) : (w.alloc o).heap[k]? = r := (Below.heap_alloc w o k h).trans hr

theorem below_putObj {W : World} {D : Nat} {o : Obj} (o' : Obj) (h : W.heap[D]? = some o) : Below D W (W.putObj D o') :=
  (Below.refl D W).grown (grownBy_putObj' W D o') (Nat.le_of_lt (Array.getElem?_eq_some_iff.1 h).1) (fun k e => by cases e; exact Nat.le_refl _)

/-- A function that held a range over a function returns. -/
theorem leave_marks {P : Program} {n : Nat} {fn : Func} {R : Ending → World → Prop} {a : Act} {W : World} {D : Nat} {v : Value} (hK : W.heap[D]? = some (.deferred (some []))) (hd : a.defers = [{ target := .collected D, args := #[] }])
    (h : ∀ W', Below D W W' → (results fn a.tmps).run P W' = .ok v W' ∧ R (.returned v) W') : bodyPostM (FW none) n P fn R .ret a W := by
  have hb := below_putObj (.deferred none) hK
  obtain ⟨hr, hR⟩ := h _ hb
  show LeavesInM _ _ _ _ _ _ a.defers _ _
  rw [hd]
  exact ⟨by simp, .inl ⟨_, _, rfl, run_takeDeferred hK, v, hr, hR⟩⟩

/-! ### Rows of four cells -/

theorem cells4 {W : World} {k : Nat} {a b c d : Value} {t : TypeId} (h : W.heap[k]? = some (.cells #[a, b, c, d] t (0, 0))) :
    W.cell? ⟨k, 0, none⟩ = some a ∧ W.cell? ⟨k, 1, none⟩ = some b ∧ W.cell? ⟨k, 2, none⟩ = some c ∧ W.cell? ⟨k, 3, none⟩ = some d ∧ ∀ j, W.frozen? ⟨k, j, none⟩ = false := by
  refine ⟨?_, ?_, ?_, ?_, fun j => ?_⟩ <;> simp [World.cell?, World.frozen?, h]

theorem store1 {W : World} {k : Nat} {cs : Array Value} {t : TypeId} (h : W.heap[k]? = some (.cells cs t (0, 0))) (j : Nat) (v : Value) : (W.setCell ⟨k, j, none⟩ v).heap[k]? = some (.cells (cs.setIfInBounds j v) t (0, 0)) := by
  simp [World.setCell, Array.getElem?_modify, h]

theorem store4 {W : World} {k : Nat} {a b c d : Value} {t : TypeId} (h : W.heap[k]? = some (.cells #[a, b, c, d] t (0, 0))) (a' b' c' d' : Value) :
    ((((W.setCell ⟨k, 0, none⟩ a').setCell ⟨k, 1, none⟩ b').setCell ⟨k, 2, none⟩ c').setCell ⟨k, 3, none⟩ d').heap[k]? = some (.cells #[a', b', c', d'] t (0, 0)) := by
  have h1 := store1 h 0 a'
  have h2 := store1 h1 1 b'
  have h3 := store1 h2 2 c'
  have h4 := store1 h3 3 d'
  simpa using h4

theorem heap_set_ne {W : World} {k j : Nat} {p : Nat} {v : Value} (h : k ≠ p) : (W.setCell ⟨p, j, none⟩ v).heap[k]? = W.heap[k]? := Below.heap_setCell _ _ _ _ h

/-- Block k holds the word n. -/
def rowW (t : TypeId) (W : World) (k n : Nat) : Prop := W.heap[k]? = some (.cells #[.int .u64 (lb n 0 : Nat), .int .u64 (lb n 1 : Nat), .int .u64 (lb n 2 : Nat), .int .u64 (lb n 3 : Nat)] t (0, 0))
theorem rowW.below {t : TypeId} {W W' : World} {k n B : Nat} (h : rowW t W k n) (hb : Below B W W') (hk : k < B) : rowW t W' k n := (hb.block k hk).trans h
theorem rowW.alloc {t : TypeId} {W : World} {k n : Nat} (h : rowW t W k n) (o : Obj) : rowW t (W.alloc o) k n := (Below.heap_alloc W o k (Array.getElem?_eq_some_iff.1 h).1).trans h
theorem rowW.drewN {t : TypeId} {W : World} {k n : Nat} (h : rowW t W k n) (m : Nat) : rowW t (W.drewN m) k n := h
theorem rowW.drew {t : TypeId} {W : World} {k n : Nat} (h : rowW t W k n) : rowW t W.drew k n := h
theorem rowW.set {t : TypeId} {W : World} {k n p j : Nat} {v : Value} (h : rowW t W k n) (hk : k ≠ p) : rowW t (W.setCell ⟨p, j, none⟩ v) k n := (heap_set_ne hk).trans h
theorem rowW.store {t : TypeId} {W : World} {k n : Nat} (m : Nat) (h : rowW t W k n) :
    rowW t ((((W.setCell ⟨k, 0, none⟩ (.int .u64 (lb m 0 : Nat))).setCell ⟨k, 1, none⟩ (.int .u64 (lb m 1 : Nat))).setCell ⟨k, 2, none⟩ (.int .u64 (lb m 2 : Nat))).setCell ⟨k, 3, none⟩ (.int .u64 (lb m 3 : Nat))) k m := store4 h _ _ _ _
/-- Block k holds some word. -/
def hasRow (t : TypeId) (W : World) (k : Nat) : Prop := ∃ n, rowW t W k n
theorem rowW.has {t : TypeId} {W : World} {k n : Nat} (h : rowW t W k n) : hasRow t W k := ⟨n, h⟩
theorem hasRow.below {t : TypeId} {W W' : World} {k B : Nat} (h : hasRow t W k) (hb : Below B W W') (hk : k < B) : hasRow t W' k := let ⟨_, h⟩ := h; ⟨_, h.below hb hk⟩
theorem hasRow.alloc {t : TypeId} {W : World} {k : Nat} (h : hasRow t W k) (o : Obj) : hasRow t (W.alloc o) k := let ⟨_, h⟩ := h; ⟨_, h.alloc o⟩
theorem hasRow.drewN {t : TypeId} {W : World} {k : Nat} (h : hasRow t W k) (m : Nat) : hasRow t (W.drewN m) k := h
theorem hasRow.drew {t : TypeId} {W : World} {k : Nat} (h : hasRow t W k) : hasRow t W.drew k := h
theorem hasRow.set {t : TypeId} {W : World} {k p j : Nat} {v : Value} (h : hasRow t W k) (hk : k ≠ p) : hasRow t (W.setCell ⟨p, j, none⟩ v) k := let ⟨_, h⟩ := h; ⟨_, h.set hk⟩
theorem rowW.put {t : TypeId} {W : World} {k : Nat} (m : Nat) (h : hasRow t W k) :
    rowW t ((((W.setCell ⟨k, 0, none⟩ (.int .u64 (lb m 0 : Nat))).setCell ⟨k, 1, none⟩ (.int .u64 (lb m 1 : Nat))).setCell ⟨k, 2, none⟩ (.int .u64 (lb m 2 : Nat))).setCell ⟨k, 3, none⟩ (.int .u64 (lb m 3 : Nat))) k m := let ⟨_, h⟩ := h; h.store m
theorem hasRow.put {t : TypeId} {W : World} {k : Nat} (m : Nat) (h : hasRow t W k) :
    hasRow t ((((W.setCell ⟨k, 0, none⟩ (.int .u64 (lb m 0 : Nat))).setCell ⟨k, 1, none⟩ (.int .u64 (lb m 1 : Nat))).setCell ⟨k, 2, none⟩ (.int .u64 (lb m 2 : Nat))).setCell ⟨k, 3, none⟩ (.int .u64 (lb m 3 : Nat))) k := (rowW.put m h).has
theorem rowW.cells {t : TypeId} {W : World} {k n : Nat} (h : rowW t W k n) :
    W.cell? ⟨k, 0, none⟩ = some (.int .u64 (lb n 0 : Nat)) ∧ W.cell? ⟨k, 1, none⟩ = some (.int .u64 (lb n 1 : Nat)) ∧ W.cell? ⟨k, 2, none⟩ = some (.int .u64 (lb n 2 : Nat)) ∧ W.cell? ⟨k, 3, none⟩ = some (.int .u64 (lb n 3 : Nat)) ∧ ∀ j, W.frozen? ⟨k, j, none⟩ = false := cells4 h
theorem rowW.cellAt {t : TypeId} {W : World} {k n j : Nat} (h : rowW t W k n) (hj : j < 4) : W.cell? ⟨k, j, none⟩ = some (.int .u64 (lb n j : Nat)) := by
  obtain ⟨h0, h1, h2, h3, _⟩ := h.cells
  have : j = 0 ∨ j = 1 ∨ j = 2 ∨ j = 3 := by omega
  rcases this with rfl | rfl | rfl | rfl <;> assumption
theorem rowW.lt {t : TypeId} {W : World} {k n : Nat} (h : rowW t W k n) : k < W.heap.size := (Array.getElem?_eq_some_iff.1 h).1
theorem rowW.new {t : TypeId} {W : World} {k n : Nat} (h : k = W.heap.size) : rowW t (W.alloc (.cells #[.int .u64 (lb n 0 : Nat), .int .u64 (lb n 1 : Nat), .int .u64 (lb n 2 : Nat), .int .u64 (lb n 3 : Nat)] t (0, 0))) k n := heap_new h
theorem rowW.new0 {t : TypeId} {W : World} {k : Nat} (h : k = W.heap.size) : rowW t (W.alloc (.cells #[.int .u64 0, .int .u64 0, .int .u64 0, .int .u64 0] t (0, 0))) k 0 := by
  have e : ∀ j, lb 0 j = 0 := fun j => by unfold lb; simp
  unfold rowW
  simp only [e]
  exact heap_new h

end Go.Proofs.YtijidnhaijdfaaaGreatDoor
