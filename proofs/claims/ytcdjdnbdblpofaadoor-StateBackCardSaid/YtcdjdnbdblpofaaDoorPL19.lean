/-
  The contract of Back at a state with one change. Conditions: none.
-/
import Derived.Test.YtcdjdnbdblpofaaDoorPL5
namespace Go.Proofs.YtcdjdnbdblpofaaDoor
open Go.RowKit Go.Maps
attribute [local go_sem] leftBy leaves Oper.semAt_some
set_option linter.unusedSimpArgs false
set_option linter.unusedVariables false


set_option maxRecDepth 100000 in
set_option maxHeartbeats 4000000 in
/-- The iterator over a list of one function. -/
theorem back_func (n : Nat) (hn : 1 ≤ n) (l Bx g cap q : Nat) (J : Nat → World → Prop) (W : World)
    (hY : ∀ k W1, J k W1 → k < 1 → YieldAt (FW none) (n - 1) Tryd.prog l #[.int .i64 0, .func (.func 59) #[] #[.pointer (some ⟨q + 4, 0, none⟩), .pointer (some ⟨q + 3, 0, none⟩), .pointer (some ⟨q, 0, none⟩), .pointer (some ⟨q + 1, 0, none⟩)]] W1 fun e W' => e = .returned (.bool true) ∧ J (k + 1) W' ∧ True)
    (hb : W.heap[Bx]? = some (.cells #[.slice (some ⟨g, 0, none⟩) 1 cap] 71 (0, 0)))
    (hg : W.cell? ⟨g, 0, none⟩ = some (.func (.func 59) #[] #[.pointer (some ⟨q + 4, 0, none⟩), .pointer (some ⟨q + 3, 0, none⟩), .pointer (some ⟨q, 0, none⟩), .pointer (some ⟨q + 1, 0, none⟩)])) (h0 : J 0 W) :
    CallsIn (FW none) n Tryd.prog 69 #[.func (.yield l) #[] #[], .pointer (some ⟨Bx, 0, none⟩)] W fun e W' => (∃ v, e = .returned v) ∧ J 1 W' := by
  have cb : W.cell? ⟨Bx, 0, none⟩ = some (.slice (some ⟨g, 0, none⟩) 1 cap) := by simp [World.cell?, hb]
  refine callsIn_of_wp Tryd.func69 rfl trivial ?_ rfl
  simp only [Tryd.ntmps69, List.size_toArray, List.length_cons, List.length_nil, Nat.reduceAdd, Nat.reduceSub, Array.replicate_succ, Array.replicate_zero, List.push_toArray, List.append_toArray, List.nil_append, List.cons_append]
  gi_wp2
  gi_loopw [3] (fun i wr => (i = .int .i64 0 ∧ J 0 wr ∧ wr = W) ∨ (i = .int .i64 (-1) ∧ J 1 wr)) (fun i _ => (intOf i + 1).toNat)
  case atStart => exact .inl ⟨by go_num, h0, rfl⟩
  case round =>
    rcases hrel with ⟨rfl, hJ, rfl⟩ | ⟨rfl, hJ⟩
    · obtain ⟨fn, tmps, assign, body, hy, hR⟩ := hY 0 wr hJ (by omega)
      gi_wp2
      refine hR.mono ?_
      rintro e W3 ⟨rfl, hJ3, hk3⟩
      gi_wp2
      go_roundw
      case rel => exact .inr ⟨by go_num, hJ3⟩
      case measure => simp [intOf]
    · gi_wp2
      go_end0
      exact ⟨⟨_, rfl⟩, hJ⟩

theorem Backward_func (v : Value) (w : World) (h : ∃ a c d, v = .slice a c d) :
    Calls Tryd.prog 52 #[v] w fun e w' => e = .returned (.func (.func 69) #[] #[.pointer (some ⟨w.heap.size, 0, none⟩)]) ∧ w' = w.alloc (.cells #[v] 71) := by
  obtain ⟨a, c, d, rfl⟩ := h
  go_enter Tryd.func52, Tryd.ntmps52
  go_wp2
  go_ret
  exact ⟨rfl, rfl⟩

theorem Fr.mono {T T' : Nat → Prop} {A W : World} (h : Fr T A W) (hT : ∀ j, T j → T' j) : Fr T' A W :=
  ⟨h.os, h.tape, h.output, h.size, fun k hk hn => h.block k hk fun ht => hn (hT k ht)⟩

/-- Between two rounds of Back. -/
structure bkI (w0 : World) (mb n : Nat) (D D' : DataW Value) (k : Nat) (W : World) : Prop where
  fr : Fr (fun j => j = mb) w0 W
  own : W.ownsMap Tryd.prog 83 heldR mb n (if k = 0 then D else D')
theorem bkI.below {w0 : World} {mb n k : Nat} {D D' : DataW Value} {W W' : World} (h : bkI w0 mb n D D' k W) (hb : Below W.heap.size W W') : bkI w0 mb n D D' k W' :=
  ⟨h.fr.below hb, owns_of h.own (hb.block _ h.own.lt)⟩
theorem bkI.turned {w0 : World} {mb n k l : Nat} {D D' : DataW Value} {W W' : World} (h : bkI w0 mb n D D' k W) (hm : mb < w0.heap.size) (hl : w0.heap.size ≤ l) (ht : recTurned l W W') : bkI w0 mb n D D' k W' :=
  ⟨h.fr.turned hl ht, owns_of h.own (ht.other (by omega))⟩

set_option maxRecDepth 100000 in
set_option maxHeartbeats 16000000 in
theorem Back_one {W : World} {b n g cap q N : Nat} {lg : Value} {D : DataW Value} {kl : Lit} {wa : Array Value} (hst : stA W b lg (.slice (some ⟨g, 0, none⟩) 1 cap)) (hcap : 1 ≤ cap) (hcg : W.cell? ⟨g, 0, none⟩ = some (cloV q)) (hgl : g < W.heap.size)
    (a : ByteArray) (k0 k1 k2 k3 : Int) (hkey : keyOf Tryd.prog 83 (.agg #[.string a, .int .u64 k0, .int .u64 k1, .int .u64 k2, .int .u64 k3]) = some kl)
    (hB : setB N (b + 2) n D #[.string a, .int .u64 k0, .int .u64 k1, .int .u64 k2, .int .u64 k3] wa false q W) (hN : b + 6 < N) :
    Calls Tryd.prog 31 #[.pointer (some ⟨b + 6, 0, none⟩), .int .i64 0] W fun e w' => e = .returned (.int .i64 0) ∧ Fr (fun j => j = b + 2 ∨ j = b + 6) W w' ∧ stA w' b lg (.slice (some ⟨g, 0, none⟩) 0 cap) ∧
      w'.ownsMap Tryd.prog 83 heldR (b + 2) n (D.del kl) := by
  have hlt := hst.lt
  have hmb := hB.own.lt
  obtain ⟨_, _, _, _, _, _, _, d7, ff⟩ := hst.cells
  unfold cloV at hcg
  refine calls_FW (n := 9) ?_
  refine callsIn_of_wp_marks Tryd.func31 rfl trivial ?_ rfl
  simp only [Tryd.ntmps31, List.size_toArray, List.length_cons, List.length_nil, Nat.reduceAdd, Nat.reduceSub, Array.replicate_succ, Array.replicate_zero, List.push_toArray, List.append_toArray, List.nil_append, List.cons_append]
  gi_wp2_with (gi_at_call 52; refine (callsIn_FW (Backward_func _ _ ⟨_, _, _, rfl⟩)).mono ?_; rintro e w' ⟨rfl, rfl⟩)
  have z0 : (W.alloc (.cells #[.slice (some ⟨g, 0, none⟩) 1 cap] 71)).heap.size = W.heap.size + 1 := by simp
  have bB : Below W.heap.size W (W.alloc (.cells #[.slice (some ⟨g, 0, none⟩) 1 cap] 71)) := (Below.refl _ W).alloc (Nat.le_refl _) _
  have h1 : (W.alloc (.cells #[.slice (some ⟨g, 0, none⟩) 1 cap] 71)).heap[W.heap.size]? = some (.cells #[.slice (some ⟨g, 0, none⟩) 1 cap] 71 (0, 0)) := heap_new rfl
  have hB1 := hB.below bB
  generalize W.alloc (.cells #[.slice (some ⟨g, 0, none⟩) 1 cap] 71) = w0 at *
  refine wpIn_rangeFunc_list (by omega) (gf := 69) (lb := #[.pointer (some ⟨W.heap.size, 0, none⟩)]) rfl trivial (enters_of Tryd.func69 (by kernel_rfl) rfl)
    1 (fun _ => #[.int .i64 0, .func (.func 59) #[] #[.pointer (some ⟨q + 4, 0, none⟩), .pointer (some ⟨q + 3, 0, none⟩), .pointer (some ⟨q, 0, none⟩), .pointer (some ⟨q + 1, 0, none⟩)]]) (fun _ => rfl) (fun _ _ => True) (bkI w0 (b + 2) n D (D.del kl)) (fun k X Y h hb => h.below hb) (fun k l X Y h hl ht => h.turned (by omega) hl ht) (fun _ _ _ _ _ => trivial) (fun _ _ _ => trivial) (fun _ _ _ _ _ => trivial) ⟨Fr.refl _ _, hB1.own⟩ ?hiter ?hround ?hdone
  case hiter =>
    intro l J X hJI hJb hY hJ0 hbX
    exact back_func 8 (by omega) l _ g cap q J X hY ((hbX.block _ (by omega)).trans h1) ((hbX.cell (p := ⟨g, 0, none⟩) (show g < w0.heap.size by omega)).trans ((bB.cell (p := ⟨g, 0, none⟩) hgl).trans hcg)) hJ0
  case hround =>
    intro l k X hl hI hk
    obtain rfl : k = 0 := by omega
    have hXs := hI.fr.size
    have hz := fun (k : Nat) o (hk : w0.heap[k]? = some o) => (Array.getElem?_eq_some_iff.1 hk).1
    gi_wp2
    refine ⟨Below.refl _ _, fun W2 ht => ?_⟩
    have ho : ∀ j, j < w0.heap.size → W2.heap[j]? = X.heap[j]? := fun j hj => ht.other (by omega)
    have hg' : ∀ k o, w0.heap[k]? = some o → k ≠ b + 2 → W2.heap[k]? = some o := fun k o hk hn => (ho k (hz _ _ hk)).trans ((hI.fr.block k (hz _ _ hk) hn).trans hk)
    have q0 : W2.ownsMap Tryd.prog 83 heldR (b + 2) n D := owns_of (by simpa using hI.own) (ho _ (by omega))
    have hle := hB1.le
    have hF2 : Fr (fun j => j = b + 2) w0 W2 := hI.fr.turned hl ht
    gi_wp2_with (gi_at_call 59; refine (callsIn_FW (undo_del q0 a k0 k1 k2 k3 hkey (hg' _ _ hB1.bm (by omega)) (hg' _ _ hB1.bs (by omega)) (hg' _ _ hB1.bh (by omega)))).mono ?_; rintro e w' ⟨rfl, hown', hgr⟩)
    have hs2 := hF2.size
    refine ⟨⟨hgr.size, fun j o hj1 hj2 _ => (hgr.block j (Array.getElem?_eq_some_iff.1 hj2).1 (by simp; omega)).trans hj2⟩, ?_, ?_⟩
    · exact hF2.trans ⟨hgr.os, hgr.tape, hgr.output, hgr.size, fun j hj hT => hgr.block j hj (by simpa using hT)⟩
    · simpa using hown'
  case hdone =>
    intro D1 X hD hI hd
    have hXs := hI.fr.size
    have s0 : stA X b lg (.slice (some ⟨g, 0, none⟩) 1 cap) := (hI.fr.block _ (by omega) (by omega)).trans ((bB.block _ hlt).trans hst)
    obtain ⟨_, _, _, _, _, _, _, e7, ee⟩ := s0.cells
    have hd' : (X.setCell ⟨b + 6, 7, none⟩ (.slice (some ⟨g, 0, none⟩) 0 cap)).heap[D1]? = some (.deferred (some [])) := (Below.heap_setCell _ _ _ _ (by simp; omega)).trans hd
    gi_wp2
    refine ⟨by simp, .inl ⟨_, _, rfl, run_takeDeferred hd', ?_⟩⟩
    have hfin : ∀ X', recTurned D1 (X.setCell ⟨b + 6, 7, none⟩ (.slice (some ⟨g, 0, none⟩) 0 cap)) X' → Fr (fun j => j = b + 2 ∨ j = b + 6) W X' ∧ stA X' b lg (.slice (some ⟨g, 0, none⟩) 0 cap) ∧ X'.ownsMap Tryd.prog 83 heldR (b + 2) n (D.del kl) := fun X' ht =>
      ⟨((((Fr.refl _ W).below bB).trans (hI.fr.mono fun j hj => .inl hj)).setCell (p := ⟨b + 6, 7, none⟩) (.inl (.inr rfl)) _).turned (by omega) ht, (ht.other (by omega)).trans (s0.set _), owns_of (by simpa using hI.own) ((ht.other (by omega)).trans (Below.heap_setCell _ _ _ _ (by simp)))⟩
    exact ⟨_, results_tmp rfl _ _ _, rfl, hfin _ ⟨_, _, hd', rfl, rfl⟩⟩
end Go.Proofs.YtcdjdnbdblpofaaDoor
