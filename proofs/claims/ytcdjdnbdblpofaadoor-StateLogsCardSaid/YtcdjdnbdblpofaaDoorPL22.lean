/-
  How an undoing is put behind the others: the region that does it, and what it leaves. Conditions: the state is one.
-/
import Derived.Maps.AppendAt
import Derived.Test.YtcdjdnbdblpofaaDoorPL21
import Derived.Test.YtcdjdnbdblpofaaDoorPL16
namespace Go.Proofs.YtcdjdnbdblpofaaDoor
open Go.RowKit Go.Maps
set_option linter.unusedSimpArgs false
set_option linter.unusedVariables false

/-- Where the region stands: stage, the list of one, the new list. -/
structure PuS where
  st : Nat
  g : Nat
  u : Value
def puPB (v : Value) (s : PuS) : Prop := ∃ g, v = .slice (some ⟨g, 0, none⟩) 1 1 ∧ s = ⟨1, g, undef⟩
def puPA (n g : Nat) (v : Value) (s : PuS) : Prop := ∃ q cap, v = .slice (some ⟨q, 0, none⟩) n cap ∧ s = ⟨2, g, .slice (some ⟨q, 0, none⟩) n cap⟩
def puPC (g : Nat) (u : Value) (v : Value) (s : PuS) : Prop := v = undef ∧ s = ⟨3, g, u⟩
/-- What is known there: un: the list, xs: its elements, v: the new one. -/
structure puR (W1 : World) (b : Nat) (lg un : Value) (xs : List Value) (v : Value) (s : PuS) (w' : World) : Prop where
  fr : Fr (fun k => un.ownBlock = some k ∨ k = b + 6) W1 w'
  st : stA w' b lg (if s.st ≤ 2 then un else s.u)
  row : s.st ≤ 1 → w'.ownsRow 0 1 1 un xs.length xs
  one : s.st = 1 → W1.heap.size ≤ s.g ∧ w'.heap[s.g]? = some (.cells #[v] 1 (0, 0))
  new : 2 ≤ s.st → w'.ownsRow 0 1 1 s.u (xs.length + 1) (xs ++ [v]) ∧ (s.u.ownBlock = un.ownBlock ∨ ∃ q, s.u.ownBlock = some q ∧ W1.heap.size ≤ q)

/-- Two blocks that hold variables of unlike types are two. -/
theorem block_ne {W : World} {i j : Nat} {c d : Array Value} {s t : TypeId} {f g : Nat × Nat} (hi : W.heap[i]? = some (.cells c s f)) (hj : W.heap[j]? = some (.cells d t g)) (h : s ≠ t) : i ≠ j := by
  rintro rfl
  rw [hi] at hj
  injection hj with hj
  injection hj with _ e
  exact h e
theorem map_ne {W : World} {i j : Nat} {c : Array Value} {s : TypeId} {f : Nat × Nat} {es : Array MapEntry} {k : Nat} (hi : W.heap[i]? = some (.cells c s f)) (hj : W.heap[j]? = some (.map es k)) : i ≠ j := by
  rintro rfl
  rw [hi] at hj
  cases hj
/-- Where a row lies. -/
theorem row_block {W : World} {e : TypeId} {size n : Nat} {v : Value} {xs : List Value} (h : W.ownsRow 0 e size v n xs) {k : Nat} (hk : v.ownBlock = some k) : ∃ cs, W.heap[k]? = some (.cells cs e (0, 0)) := by
  rcases h.2 with ⟨rfl, _⟩ | ⟨g, cap, cur, rfl, _, h3, _⟩
  · cases hk
  · obtain rfl : g = k := Option.some.inj hk
    exact ⟨cur, h3⟩

/-- The state behind it. -/
theorem push_done {w w2 : World} {F F' : Nat → Prop} {b N : Nat} {L : List Kw} {R : List Chg} {c : Chg} {un u2 lg v : Value} {xs : List Value} (hC : CRep w F b N L (c :: R) un) (hlg : stA w b lg un) (hrow : w.ownsRow 0 1 1 un xs.length xs) (hun : ∀ k, un.ownBlock = some k → F k)
    (hx : unL w F b R xs) (hv : unAt w F b R c v) (fr : Fr (fun k => un.ownBlock = some k ∨ k = b + 6) w w2) (hst : stA w2 b lg u2) (hnew : w2.ownsRow 0 1 1 u2 (xs.length + 1) (xs ++ [v])) (hat : u2.ownBlock = un.ownBlock ∨ ∃ q, u2.ownBlock = some q ∧ w.heap.size ≤ q)
    (hF : ∀ k, F k → F' k) (hF1 : ∀ k, w.heap.size ≤ k → k < w2.heap.size → F' k) (hF2 : ∀ k, F' k → k < w2.heap.size) : SRep w2 F' b N L (c :: R) := by
  have h6 : w.heap[b + 6]? = _ := hlg
  have same : ∀ k, k < w.heap.size → (∀ cs f, w.heap[k]? ≠ some (.cells cs 1 f)) → k ≠ b + 6 → w2.heap[k]? = w.heap[k]? := fun k hk h1 h2 => fr.block k hk fun hT => by
    rcases hT with hT | hT
    · obtain ⟨cs, h3⟩ := row_block hrow hT
      exact h1 _ _ h3
    · exact h2 hT
  have mv : ∀ {ι : Type} {kt : TypeId} {kv : ι → Value} {ok : ι → Prop} {mb : Nat} {z : Value} {f : ι → Option Value}, MV w kt kv ok mb N z f → MV w2 kt kv ok mb N z f := fun h => h.at_block (by
    obtain ⟨es, clock, hm⟩ := h.isMap
    exact same _ h.lt (fun cs f e => by rw [hm] at e; cases e) (fun e => by rw [e, h6] at hm; cases hm))
  have hb : Boxes F w w2 := fun q cs t ht hq he => (same q (hC.flt q hq) (fun cs' f e => by rw [he] at e; injection e with e; injection e with _ e; subst e; exact absurd ht (by decide)) (fun e => by rw [e, h6] at he; injection he with he; injection he with _ he; subst he; exact absurd ht (by decide))).trans he
  obtain ⟨lg2, s1, s2, s3⟩ := hC.st
  obtain rfl : lg2 = lg := by
    have e : some (Obj.cells _ _ _) = some _ := s1.symm.trans h6
    simpa using e
  refine ⟨u2, ⟨hF2, fun j hj => hF _ (hC.fb j hj), ⟨lg2, hst, ownsRow_same s2 fun k hk => ?_, fun k hk => hF k (s3 k hk)⟩, mv hC.m0, mv hC.m1, mv hC.m2, mv hC.m3, mv hC.m4, mv hC.m5⟩, xs ++ [v], ?_, fun k hk => ?_, xs, v, rfl, hv.stays hb hF, hx.stays hb hF⟩
  · obtain ⟨cs, h3⟩ := row_block s2 hk
    exact same k (hC.flt k (s3 k hk)) (fun cs' f e => by rw [h3] at e; injection e with e; injection e with _ e; exact absurd e (by decide)) (fun e => by rw [e, h6] at h3; injection h3 with h3; injection h3 with _ h3; exact absurd h3 (by decide))
  · rw [List.length_cons, ← hx.length]
    exact hnew
  · rcases hat with h | ⟨q, h, hq⟩
    · exact hF k (hun k (h ▸ hk))
    · obtain rfl : q = k := Option.some.inj (h.symm.trans hk)
      obtain ⟨cs, h3⟩ := row_block hnew hk
      exact hF1 q hq (Array.getElem?_eq_some_iff.1 h3).1

theorem SRep.mono {W : World} {F F' : Nat → Prop} {b N N' : Nat} {L : List Kw} {R : List Chg} (h : SRep W F b N L R) (hF : ∀ k, F k → F' k) (hN : N ≤ N') (hF' : ∀ k, F' k → k < W.heap.size) : SRep W F' b N' L R := by
  obtain ⟨un, h1, h2⟩ := h
  exact ⟨un, h1.mono hF hF' hN, h2.mono hF⟩
/-- What a call that may change the state leaves. -/
def muPost (W : World) (F : Nat → Prop) (b N : Nat) (L : List Kw) (R : List Chg) (v : Value) (e : Ending) (w' : World) : Prop :=
  e = .returned v ∧ ∃ F', SRep w' F' b N L R ∧ Fr F W w' ∧ (∀ k, F k → F' k) ∧ ∀ k, F' k → F k ∨ W.heap.size ≤ k
end Go.Proofs.YtcdjdnbdblpofaaDoor
