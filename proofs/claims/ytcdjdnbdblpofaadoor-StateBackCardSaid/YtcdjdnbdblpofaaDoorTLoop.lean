/-
  A range over a function whose iterator yields N elements, whose loop variables may lie in boxes, and whose body may leave the loop: conditions: none.
-/
import Derived.Test.YtcdjdnbdblpofaaDoorSLoop
namespace Go.Proofs.YtcdjdnbdblpofaaDoor
open Go.RowKit
set_option linter.unusedSimpArgs false
set_option linter.unusedVariables false

/-- How round k may end. -/
def twoPost (B id k : Nat) (Kp : World → World → Prop) (I : Nat → World → Prop) (Ix : World → Prop) (W : World) : Exit → Act → World → Prop
  | .normal, _, W' => KeepsFrom B W W' ∧ Kp W W' ∧ I (k + 1) W'
  | .exit i, _, W' => i = id ∧ KeepsFrom B W W' ∧ Ix W'
  | _, _, _ => False

theorem wpIn_rangeFunc_two {P : Program} {n : Nat} {g : Operand} {ps : Array Tmp} {assign body : Code} {Q : Exit → Act → World → Prop} {a : Act} {w : World} (h1 : 1 ≤ n)
    {gf : Nat} {lb : Array Value} (hg : a.eval g = .func (.func gf) #[] lb) (hF : (FW none).fn gf) (eg : ∀ args w, (callFunc gf args).run P w = .ok (.enter gf args) w)
    (N id : Nat) (σ : Nat → Array Value) (hps : ∀ k, (σ k).size = ps.size) (Kp : World → World → Prop) (I : Nat → World → Prop) (Ix : World → Prop)
    (hIb : ∀ k W W', I k W → Below W.heap.size W W' → I k W') (hIp : ∀ k l W W', I k W → w.heap.size ≤ l → recTurned l W W' → I k W') (hXp : ∀ l W W', Ix W → w.heap.size ≤ l → recTurned l W W' → Ix W')
    (hKt : ∀ A B C, Kp A B → Kp B C → Kp A C) (hKb : ∀ W W', Below W.heap.size W W' → Kp W W') (hKp : ∀ l W W', w.heap.size ≤ l → recTurned l W W' → Kp W W')
    (h0 : I 0 w)
    (hiter : ∀ (l : Nat) (J : Nat → World → Prop) (Jx : World → Prop) (W : World), (∀ k W, J k W → I k W) → (∀ k W W', J k W → Below W.heap.size W W' → J k W') →
      (∀ k W1, J k W1 → k < N → YieldAt (FW none) (n - 1 - 1) P l (σ k) W1 fun e W' => (e = .returned (.bool true) ∧ J (k + 1) W' ∧ Kp W1 W') ∨ (e = .returned (.bool false) ∧ Jx W')) →
      J 0 W → Below w.heap.size w W → CallsIn (FW none) (n - 1) P gf (#[.func (.yield l) #[] #[]] ++ lb) W fun e W' => (∃ v, e = .returned v) ∧ (J N W' ∨ Jx W'))
    (hround : ∀ (l k : Nat) (W : World), w.heap.size ≤ l → I k W → k < N →
      assign.wpIn ((FW none).inRound l) (n - 1 - 1) P (Exit.then (fun a1 W1 => Below W.heap.size W W1 ∧ ∀ W2, recTurned l W1 W2 → body.wpIn ((FW none).inRound l) (n - 1 - 1) P (twoPost w.heap.size id k Kp I Ix W2) a1 W2) (fun _ _ _ => False))
        { tmps := (ps.zip (σ k)).foldl (fun t (p, v) => t.setIfInBounds p v) a.tmps, defers := [] } W)
    (hdone : ∀ (D : Nat) (W : World), w.heap.size ≤ D → I N W → W.heap[D]? = some (.deferred (some [])) → Q .normal { a with defers := { target := .collected D, args := #[] } :: a.defers } W)
    (hstop : ∀ (D : Nat) (W : World), w.heap.size ≤ D → Ix W → W.heap[D]? = some (.deferred (some [])) → (Code.exit id).wpIn (FW none) n P Q { a with defers := { target := .collected D, args := #[] } :: a.defers } W) :
    (Code.rangeFunc g ps assign body).wpIn (FW none) n P Q a w := by
  refine wpIn_rangeFunc fun fn hfn => ?_
  let D := w.heap.size
  let mk : LoopState → Option Code → Obj := fun st pe => .loop { state := st, pending := pe, fn, tmps := a.tmps, params := ps, assign, body, defers := D }
  let w1 := (w.alloc (.deferred (some []))).alloc (mk .ready none)
  let J : Nat → World → Prop := fun k W => I k W ∧ W.heap[D + 1]? = some (mk .ready none) ∧ W.heap[D]? = some (.deferred (some []))
  let Jx : World → Prop := fun W => Ix W ∧ W.heap[D + 1]? = some (mk .done (some (.exit id))) ∧ W.heap[D]? = some (.deferred (some []))
  have hw1 : Below D w w1 := ((Below.refl D w).alloc (Nat.le_refl _) _).alloc (by simp [D]) _
  have hl1 : w1.heap[D + 1]? = some (mk .ready none) := by
    have := World.alloc_heap_new (w.alloc (.deferred (some []))) (mk .ready none)
    rwa [World.size_alloc] at this
  have hd1 : w1.heap[D]? = some (.deferred (some [])) := (Below.heap_alloc _ _ _ (by simp [D])).trans (World.alloc_heap_new w _)
  have hJ1 : J 0 w1 := ⟨hIb 0 w w1 h0 hw1, hl1, hd1⟩
  refine ⟨D + 1, [{ target := .collected D, args := #[] }], w1, { target := .fn (.func gf) lb, args := #[.func (.yield (D + 1)) #[] #[]] }, w1, gf, #[.func (.yield (D + 1)) #[] #[]] ++ lb, w1,
    run_enterLoop_outer _ _ _ _ _, ?_, ?_, ?_, fun _ => h1, ?_⟩
  · simp only [resolve, hg]
    simp [go_sem]
  · intro f' hf'
    simp [Target.leads] at hf'
    subst hf'
    exact hF
  · simp [invoke, go_sem, eg]
  refine (hiter (D + 1) J Jx w1 (fun k W h => h.1) (fun k W W' h hb => ?_) (fun k W h hkN => ?_) hJ1 hw1).mono ?_
  · obtain ⟨hi, hl, hd⟩ := h
    have z := (Array.getElem?_eq_some_iff.1 hl).1
    exact ⟨hIb k W W' hi hb, (hb.block _ z).trans hl, (hb.block _ (by omega)).trans hd⟩
  · -- one round
    obtain ⟨hi, hl, hd⟩ := h
    have z := (Array.getElem?_eq_some_iff.1 hl).1
    have hy := run_yield (P := P) (args := σ k) hl (hps k)
    refine ⟨fn, _, assign, body, hy, roundIn_of_wpIn hfn (wpIn_mono (hround (D + 1) k W (by simp [D]) hi hkN) fun e1 a1 W1 hp1 => ?_)⟩
    cases e1 with
    | normal =>
      obtain ⟨hb1, hp1⟩ := hp1
      have hlW : W1.heap[D + 1]? = some (mk .ready none) := (hb1.block _ z).trans hl
      have hdW : W1.heap[D]? = some (.deferred (some [])) := (hb1.block _ (by omega)).trans hd
      have z1 := (Array.getElem?_eq_some_iff.1 hlW).1
      have t1 : recTurned (D + 1) W1 (W1.putObj (D + 1) (mk .busy none)) := ⟨_, _, hlW, rfl, rfl⟩
      have hl2 : (W1.putObj (D + 1) (mk .busy none)).heap[D + 1]? = some (mk .busy none) := World.putObj_heap_same z1
      have hd2 : (W1.putObj (D + 1) (mk .busy none)).heap[D]? = some (.deferred (some [])) := putObj_other hlW hdW (by omega) _
      refine ⟨_, run_beginRound hlW rfl, wpIn_mono (hp1 _ t1) fun e a3 W3 hp => ?_⟩
      have back : KeepsFrom D (W1.putObj (D + 1) (mk .busy none)) W3 → W3.heap[D + 1]? = some (mk .busy none) ∧ W3.heap[D]? = some (.deferred (some [])) := fun hk =>
        ⟨hk.same _ _ (by omega) hl2 rfl, hk.same _ _ (Nat.le_refl _) hd2 rfl⟩
      cases e with
      | normal =>
        obtain ⟨hk, hkp, hi3⟩ := hp
        obtain ⟨hl3, hd3⟩ := back hk
        have z3 := (Array.getElem?_eq_some_iff.1 hl3).1
        have hr := run_endRound (P := P) none hl3
        have t3 : recTurned (D + 1) W3 (W3.putObj (D + 1) (mk .ready none)) := ⟨_, _, hl3, rfl, rfl⟩
        exact ⟨_, _, hr, .inl ⟨rfl, ⟨hIp _ _ W3 _ hi3 (by simp [D]) t3, World.putObj_heap_same z3, putObj_other hl3 hd3 (by omega) _⟩,
          hKt _ _ _ (hKt _ _ _ (hKt _ _ _ (hKb _ _ hb1) (hKp _ _ _ (by simp [D]) t1)) hkp) (hKp _ _ _ (by simp [D]) t3)⟩⟩
      | exit i =>
        obtain ⟨rfl, hk, hx⟩ := hp
        obtain ⟨hl3, hd3⟩ := back hk
        have z3 := (Array.getElem?_eq_some_iff.1 hl3).1
        have hr := run_endRound (P := P) (some (.exit i)) hl3
        have t3 : recTurned (D + 1) W3 (W3.putObj (D + 1) (mk .done (some (.exit i)))) := ⟨_, _, hl3, rfl, rfl⟩
        exact ⟨_, _, hr, .inr ⟨rfl, hXp _ W3 _ hx (by simp [D]) t3, World.putObj_heap_same z3, putObj_other hl3 hd3 (by omega) _⟩⟩
      | _ => exact hp.elim
    | _ => exact hp1.elim
  · rintro e W2 ⟨⟨v, rfl⟩, ⟨hi, hl, hd⟩ | ⟨hx, hl, hd⟩⟩
    · exact ⟨none, _, run_endLoop (P := P) hl (by simp), hdone D _ (Nat.le_refl _) (hIp _ _ W2 _ hi (by simp [D]) ⟨_, _, hl, rfl, rfl⟩) (putObj_other hl hd (by omega) _)⟩
    · exact ⟨some (.exit id), _, run_endLoop (P := P) hl (by simp), hstop D _ (Nat.le_refl _) (hXp _ W2 _ hx (by simp [D]) ⟨_, _, hl, rfl, rfl⟩) (putObj_other hl hd (by omega) _)⟩
end Go.Proofs.YtcdjdnbdblpofaaDoor
