/-
  A range over a function whose iterator yields N elements and writes a box of its own, and whose body goes through: conditions: none.
-/
import Derived.Test.YtijidnhaijdfaaaGreatDoorSLoop
import Derived.Test.YtijidnhaijdfaaaGreatDoorRange
namespace Go.Proofs.YtijidnhaijdfaaaGreatDoor
open Go.RowKit
set_option linter.unusedSimpArgs false
set_option linter.unusedVariables false

/-- What is asked at the end, behind a name. -/
theorem wpIn_hide {F : Fence} {n : Nat} {P : Program} {c : Code} {Q : Exit → Act → World → Prop} {a : Act} {w : World} (h : ∀ QQ : Exit → Act → World → Prop, Hid (∀ e a w, Q e a w → QQ e a w) → c.wpIn F n P QQ a w) : c.wpIn F n P Q a w := h Q (Lib.hid fun _ _ _ h => h)
theorem wp_hide {P : Program} {c : Code} {Q : Exit → Act → World → Prop} {a : Act} {w : World} (h : ∀ QQ : Exit → Act → World → Prop, Hid (∀ e a w, Q e a w → QQ e a w) → c.wp P QQ a w) : c.wp P Q a w := h Q (Lib.hid fun _ _ _ h => h)
theorem wpIn_rangeFunc_box {P : Program} {n : Nat} {g : Operand} {ps : Array Tmp} {assign body : Code} {Q : Exit → Act → World → Prop} {a : Act} {w : World} (h1 : 1 ≤ n)
    {gf : Nat} {lb : Array Value} (hg : a.eval g = .func (.func gf) #[] lb) (hF : (FW none).fn gf) (eg : ∀ args w, (callFunc gf args).run P w = .ok (.enter gf args) w)
    (N Bs : Nat) (hBs : Bs < w.heap.size) (Φ : Nat → World → Array Value → Prop) (hps : ∀ k W vs, Φ k W vs → vs.size = ps.size) (Kp : World → World → Prop) (I : Nat → World → Prop)
    (hIb : ∀ k W W', I k W → Below W.heap.size W W' → I k W') (hIp : ∀ k l W W', I k W → w.heap.size ≤ l → recTurned l W W' → I k W')
    (hIs : ∀ k W v, I k W → I k (W.setCell ⟨Bs, 0, none⟩ v))
    (hKt : ∀ A B C, Kp A B → Kp B C → Kp A C) (hKb : ∀ W W', Below W.heap.size W W' → Kp W W') (hKp : ∀ l W W', w.heap.size ≤ l → recTurned l W W' → Kp W W')
    (h0 : I 0 w)
    (hiter : ∀ (l : Nat) (J : Nat → World → Prop) (W : World), (∀ k W, J k W → I k W) → (∀ k W W', J k W → Below W.heap.size W W' → J k W') → (∀ k W v, J k W → J k (W.setCell ⟨Bs, 0, none⟩ v)) →
      (∀ k W1 vs, J k W1 → k < N → Φ k W1 vs → YieldAt (FW none) (n - 1 - 1) P l vs W1 fun e W' => e = .returned (.bool true) ∧ J (k + 1) W' ∧ Kp W1 W') →
      J 0 W → Below w.heap.size w W → CallsIn (FW none) (n - 1) P gf (#[.func (.yield l) #[] #[]] ++ lb) W fun e W' => (∃ v, e = .returned v) ∧ J N W')
    (hround : ∀ (l k : Nat) (W : World) (vs : Array Value), w.heap.size ≤ l → I k W → k < N → Φ k W vs →
      assign.wpIn ((FW none).inRound l) (n - 1 - 1) P (Exit.then (fun a1 W1 => Below W.heap.size W W1 ∧ ∀ W2, recTurned l W1 W2 → body.wpIn ((FW none).inRound l) (n - 1 - 1) P (fun e _ W' => e = .normal ∧ KeepsFrom w.heap.size W2 W' ∧ Kp W2 W' ∧ I (k + 1) W') a1 W2) (fun _ _ _ => False))
        { tmps := (ps.zip vs).foldl (fun t (p, v) => t.setIfInBounds p v) a.tmps, defers := [] } W)
    (hdone : ∀ (D : Nat) (W : World), w.heap.size ≤ D → I N W → W.heap[D]? = some (.deferred (some [])) → Q .normal { a with defers := { target := .collected D, args := #[] } :: a.defers } W) :
    (Code.rangeFunc g ps assign body).wpIn (FW none) n P Q a w := by
  refine wpIn_rangeFunc fun fn hfn => ?_
  let D := w.heap.size
  let mk : LoopState → Option Code → Obj := fun st pe => .loop { state := st, pending := pe, fn, tmps := a.tmps, params := ps, assign, body, defers := D }
  let w1 := (w.alloc (.deferred (some []))).alloc (mk .ready none)
  let J : Nat → World → Prop := fun k W => I k W ∧ W.heap[D + 1]? = some (mk .ready none) ∧ W.heap[D]? = some (.deferred (some []))
  have hw1 : Below D w w1 := ((Below.refl D w).alloc (Nat.le_refl _) _).alloc (by simp [D]) _
  have hl1 : w1.heap[D + 1]? = some (mk .ready none) := by
    have := World.alloc_heap_new (w.alloc (.deferred (some []))) (mk .ready none)
    rwa [World.size_alloc] at this
  have hd1 : w1.heap[D]? = some (.deferred (some [])) := (Below.heap_alloc _ _ _ (by simp [D])).trans (World.alloc_heap_new w _)
  have hJ1 : J 0 w1 := ⟨hIb 0 w w1 h0 hw1, hl1, hd1⟩
  refine ⟨D + 1, [{ target := .collected D, args := #[] }], w1, { target := .fn (.func gf) lb, args := #[.func (.yield (D + 1)) #[] #[]] }, w1, gf, #[.func (.yield (D + 1)) #[] #[]] ++ lb, w1,
    run_enterLoop_outer _ _ _ _ _, ?_, ?_, ?_, fun _ => h1, ?_⟩
  · simp only [resolve, hg]
    simp [go_sem]
  · intro f' hf'
    simp [Target.leads] at hf'
    subst hf'
    exact hF
  · simp [invoke, go_sem, eg]
  refine (hiter (D + 1) J w1 (fun k W h => h.1) (fun k W W' h hb => ?_) (fun k W v h => ⟨hIs k W v h.1, (heap_set_ne (show D + 1 ≠ Bs by show w.heap.size + 1 ≠ Bs; omega)).trans h.2.1, (heap_set_ne (show D ≠ Bs by show w.heap.size ≠ Bs; omega)).trans h.2.2⟩) (fun k W vs h hkN hvs => ?_) hJ1 hw1).mono ?_
  · obtain ⟨hi, hl, hd⟩ := h
    have z := (Array.getElem?_eq_some_iff.1 hl).1
    exact ⟨hIb k W W' hi hb, (hb.block _ z).trans hl, (hb.block _ (by omega)).trans hd⟩
  · -- one round
    obtain ⟨hi, hl, hd⟩ := h
    have z := (Array.getElem?_eq_some_iff.1 hl).1
    have hy := run_yield (P := P) (args := vs) hl (hps k W vs hvs)
    refine ⟨fn, _, assign, body, hy, roundIn_of_wpIn hfn (wpIn_mono (hround (D + 1) k W vs (by simp [D]) hi hkN hvs) fun e1 a1 W1 hp1 => ?_)⟩
    cases e1 with
    | normal =>
      obtain ⟨hb1, hp1⟩ := hp1
      have hlW : W1.heap[D + 1]? = some (mk .ready none) := (hb1.block _ z).trans hl
      have hdW : W1.heap[D]? = some (.deferred (some [])) := (hb1.block _ (by omega)).trans hd
      have z1 := (Array.getElem?_eq_some_iff.1 hlW).1
      have t1 : recTurned (D + 1) W1 (W1.putObj (D + 1) (mk .busy none)) := ⟨_, _, hlW, rfl, rfl⟩
      have hl2 : (W1.putObj (D + 1) (mk .busy none)).heap[D + 1]? = some (mk .busy none) := World.putObj_heap_same z1
      have hd2 : (W1.putObj (D + 1) (mk .busy none)).heap[D]? = some (.deferred (some [])) := putObj_other hlW hdW (by omega) _
      refine ⟨_, run_beginRound hlW rfl, wpIn_mono (hp1 _ t1) fun e a3 W3 hp => ?_⟩
      obtain ⟨rfl, hk, hkp, hi3⟩ := hp
      have hl3 := hk.same _ _ (by omega) hl2 rfl
      have hd3 := hk.same _ _ (Nat.le_refl _) hd2 rfl
      have z3 := (Array.getElem?_eq_some_iff.1 hl3).1
      have hr := run_endRound (P := P) none hl3
      have t3 : recTurned (D + 1) W3 (W3.putObj (D + 1) (mk .ready none)) := ⟨_, _, hl3, rfl, rfl⟩
      exact ⟨_, _, hr, rfl, ⟨hIp _ _ W3 _ hi3 (by simp [D]) t3, World.putObj_heap_same z3, putObj_other hl3 hd3 (by omega) _⟩,
        hKt _ _ _ (hKt _ _ _ (hKt _ _ _ (hKb _ _ hb1) (hKp _ _ _ (by simp [D]) t1)) hkp) (hKp _ _ _ (by simp [D]) t3)⟩
    | _ => exact hp1.elim
  · rintro e W2 ⟨⟨v, rfl⟩, hi, hl, hd⟩
    exact ⟨none, _, run_endLoop (P := P) hl (by simp), hdone D _ (Nat.le_refl _) (hIp _ _ W2 _ hi (by simp [D]) ⟨_, _, hl, rfl, rfl⟩) (putObj_other hl hd (by omega) _)⟩
end Go.Proofs.YtijidnhaijdfaaaGreatDoor
