/-
  A range over a function whose iterator never ends by itself: the rounds are counted, and a round leaves the loop. Conditions: none.
-/
import Derived.RangeFuncWrites
import Derived.Test.YtbgeenkkdfbngaaFlow
namespace Go.Proofs.Ytbgeenkkdfbngaa
open Go.RowKit
set_option linter.unusedSimpArgs false
set_option linter.unusedVariables false

/-- How round k may end: it goes on (and k is below N), or it leaves the block id. -/
def countPost (B id N k : Nat) (Kp : World → World → Prop) (I : Nat → World → Prop) (Ix : World → Prop) (W : World) : Exit → Act → World → Prop
  | .normal, _, W' => KeepsFrom B W W' ∧ Kp W W' ∧ I (k + 1) W' ∧ k < N
  | .exit i, _, W' => i = id ∧ KeepsFrom B W W' ∧ Ix W'
  | _, _, _ => False

theorem putObj_other {W : World} {l j : Nat} {o o' : Obj} (hl : W.heap[l]? = some o) (hj : W.heap[j]? = some o') (h : j ≠ l) (x : Obj) : (W.putObj l x).heap[j]? = some o' :=
  (World.putObj_heap_other h).trans hj

theorem wpIn_rangeFunc_count {P : Program} {n : Nat} {g : Operand} {ps : Array Tmp} {assign body : Code} {Q : Exit → Act → World → Prop} {a : Act} {w : World} (h1 : 1 ≤ n)
    {gf : Nat} {lb : Array Value} (hg : a.eval g = .func (.func gf) #[] lb) (hF : (FW none).fn gf) (eg : ∀ args w, (callFunc gf args).run P w = .ok (.enter gf args) w)
    (N id : Nat) (σ : Nat → Value) (hps : ps.size = 1) (Kp : World → World → Prop) (I : Nat → World → Prop) (Ix : World → Prop)
    (hIb : ∀ k W W', I k W → Below W.heap.size W W' → I k W')
    (hIp : ∀ k W l o', I k W → w.heap.size ≤ l → (∃ o, W.heap[l]? = some o ∧ o.isCells = false) → I k (W.putObj l o'))
    (hXp : ∀ W l o', Ix W → w.heap.size ≤ l → (∃ o, W.heap[l]? = some o ∧ o.isCells = false) → Ix (W.putObj l o'))
    (hKt : ∀ A B C, Kp A B → Kp B C → Kp A C) (hKp : ∀ W l o', w.heap.size ≤ l → (∃ o, W.heap[l]? = some o ∧ o.isCells = false) → Kp W (W.putObj l o'))
    (h0 : I 0 w)
    (hiter : ∀ (l : Nat) (J : Nat → World → Prop) (Jx : World → Prop) (W : World), (∀ k W, J k W → I k W) → (∀ k W W', J k W → Below W.heap.size W W' → J k W') →
      (∀ k W1, J k W1 → YieldAt (FW none) (n - 1 - 1) P l #[σ k] W1 fun e W' => (e = .returned (.bool true) ∧ J (k + 1) W' ∧ Kp W1 W' ∧ k < N) ∨ (e = .returned (.bool false) ∧ Jx W')) →
      J 0 W → Below w.heap.size w W → CallsIn (FW none) (n - 1) P gf (#[.func (.yield l) #[] #[]] ++ lb) W fun e W' => (∃ v, e = .returned v) ∧ Jx W')
    (hround : ∀ (l k : Nat) (W W2 : World), I k W2 →
      assign.wpIn ((FW none).inRound l) (n - 1 - 1) P (Exit.then (fun a1 W1 => W1 = W ∧ body.wpIn ((FW none).inRound l) (n - 1 - 1) P (countPost w.heap.size id N k Kp I Ix W2) a1 W2) (fun _ _ _ => False))
        { tmps := (ps.zip #[σ k]).foldl (fun t (p, v) => t.setIfInBounds p v) a.tmps, defers := [] } W)
    (hstop : ∀ (D : Nat) (W : World), w.heap.size ≤ D → Ix W → W.heap[D]? = some (.deferred (some [])) → (Code.exit id).wpIn (FW none) n P Q { a with defers := { target := .collected D, args := #[] } :: a.defers } W) :
    (Code.rangeFunc g ps assign body).wpIn (FW none) n P Q a w := by
  refine wpIn_rangeFunc fun fn hfn => ?_
  let D := w.heap.size
  let mk : LoopState → Option Code → Obj := fun st pe => .loop { state := st, pending := pe, fn, tmps := a.tmps, params := ps, assign, body, defers := D }
  let w1 := (w.alloc (.deferred (some []))).alloc (mk .ready none)
  let J : Nat → World → Prop := fun k W => I k W ∧ W.heap[D + 1]? = some (mk .ready none) ∧ W.heap[D]? = some (.deferred (some []))
  let Jx : World → Prop := fun W => Ix W ∧ W.heap[D + 1]? = some (mk .done (some (.exit id))) ∧ W.heap[D]? = some (.deferred (some []))
  have hw1 : Below D w w1 := ((Below.refl D w).alloc (Nat.le_refl _) _).alloc (by simp [D]) _
  have hl1 : w1.heap[D + 1]? = some (mk .ready none) := by
    have := World.alloc_heap_new (w.alloc (.deferred (some []))) (mk .ready none)
    rwa [World.size_alloc] at this
  have hd1 : w1.heap[D]? = some (.deferred (some [])) := (Below.heap_alloc _ _ _ (by simp [D])).trans (World.alloc_heap_new w _)
  have hJ1 : J 0 w1 := ⟨hIb 0 w w1 h0 hw1, hl1, hd1⟩
  refine ⟨D + 1, [{ target := .collected D, args := #[] }], w1, { target := .fn (.func gf) lb, args := #[.func (.yield (D + 1)) #[] #[]] }, w1, gf, #[.func (.yield (D + 1)) #[] #[]] ++ lb, w1,
    run_enterLoop_outer _ _ _ _ _, ?_, ?_, ?_, fun _ => h1, ?_⟩
  · simp only [resolve, hg]
    simp [go_sem]
  · intro f' hf'
    simp [Target.leads] at hf'
    subst hf'
    exact hF
  · simp [invoke, go_sem, eg]
  refine (hiter (D + 1) J Jx w1 (fun k W h => h.1) (fun k W W' h hb => ?_) (fun k W h => ?_) hJ1 hw1).mono ?_
  · obtain ⟨hi, hl, hd⟩ := h
    have z := (Array.getElem?_eq_some_iff.1 hl).1
    exact ⟨hIb k W W' hi hb, (hb.block _ z).trans hl, (hb.block _ (by omega)).trans hd⟩
  · -- one round
    obtain ⟨hi, hl, hd⟩ := h
    have z := (Array.getElem?_eq_some_iff.1 hl).1
    have hy := run_yield (P := P) (args := #[σ k]) hl (by simp [hps])
    have hl2 : (W.putObj (D + 1) (mk .busy none)).heap[D + 1]? = some (mk .busy none) := World.putObj_heap_same z
    have hd2 : (W.putObj (D + 1) (mk .busy none)).heap[D]? = some (.deferred (some [])) := putObj_other hl hd (by omega) _
    have kb : Kp W (W.putObj (D + 1) (mk .busy none)) := hKp W _ _ (by simp [D]) ⟨_, hl, rfl⟩
    refine ⟨fn, _, assign, body, hy, roundIn_of_wpIn hfn (wpIn_mono (hround (D + 1) k W _ (hIp k W _ (mk .busy none) hi (by simp [D]) ⟨_, hl, rfl⟩)) fun e1 a1 W1 hp1 => ?_)⟩
    cases e1 with
    | normal =>
      obtain ⟨hW1, hp1⟩ := hp1
      refine ⟨_, by rw [hW1]; exact run_beginRound hl rfl, ?_⟩
      refine wpIn_mono hp1 fun e a3 W3 hp => ?_
      have back : KeepsFrom D (W.putObj (D + 1) (mk .busy none)) W3 → W3.heap[D + 1]? = some (mk .busy none) ∧ W3.heap[D]? = some (.deferred (some [])) := fun hk =>
        ⟨hk.same _ _ (by omega) hl2 rfl, hk.same _ _ (Nat.le_refl _) hd2 rfl⟩
      cases e with
      | normal =>
        obtain ⟨hk, hkp, hi3, hkN⟩ := hp
        obtain ⟨hl3, hd3⟩ := back hk
        have z3 := (Array.getElem?_eq_some_iff.1 hl3).1
        have hr := run_endRound (P := P) none hl3
        exact ⟨_, _, hr, .inl ⟨rfl, ⟨hIp _ W3 _ _ hi3 (by simp [D]) ⟨_, hl3, rfl⟩, World.putObj_heap_same z3, putObj_other hl3 hd3 (by omega) _⟩, hKt _ _ _ (hKt _ _ _ kb hkp) (hKp W3 _ _ (by simp [D]) ⟨_, hl3, rfl⟩), hkN⟩⟩
      | exit i =>
        obtain ⟨rfl, hk, hx⟩ := hp
        obtain ⟨hl3, hd3⟩ := back hk
        have z3 := (Array.getElem?_eq_some_iff.1 hl3).1
        have hr := run_endRound (P := P) (some (.exit i)) hl3
        exact ⟨_, _, hr, .inr ⟨rfl, hXp W3 _ _ hx (by simp [D]) ⟨_, hl3, rfl⟩, World.putObj_heap_same z3, putObj_other hl3 hd3 (by omega) _⟩⟩
      | _ => exact hp.elim
    | _ => exact hp1.elim
  · rintro e W2 ⟨⟨v, rfl⟩, hx, hl, hd⟩
    exact ⟨some (.exit id), _, run_endLoop (P := P) hl (by simp), hstop D _ (Nat.le_refl _) (hXp W2 _ _ hx (by simp [D]) ⟨_, hl, rfl⟩) (putObj_other hl hd (by omega) _)⟩
end Go.Proofs.Ytbgeenkkdfbngaa
