/-
  The contract of New at one account of which nothing but the address is known. Conditions: none.
-/
import Derived.RangeFuncBox
import Derived.LoopNIn
import Derived.LoopIn
import Derived.WalkMore
import Derived.Shelf.Abstract
import Derived.Maps.OwnIn
import Derived.Test.YtcdjdnbdblpofaaDoorPL2
import Derived.Test.YtcdjdnbdblpofaaDoorSLoop
namespace Go.Proofs.YtcdjdnbdblpofaaDoor
open Go.RowKit Go.Maps
attribute [local go_sem] leftBy leaves Oper.semAt_some
set_option linter.unusedSimpArgs false
set_option linter.unusedVariables false

theorem Fr.turned {T : Nat → Prop} {w W W' : World} {l : Nat} (h : Fr T w W) (hl : w.heap.size ≤ l) (ht : recTurned l W W') : Fr T w W' := by
  have e := ht
  obtain ⟨o, o', h1, h2, rfl⟩ := ht
  have hg := grownBy_putObj' W l o'
  exact ⟨hg.os.trans h.os, hg.tape.trans h.tape, hg.output.trans h.output, Nat.le_trans h.size hg.size, fun k hk hT => (e.other (by omega)).trans (h.block k hk hT)⟩

set_option maxRecDepth 100000 in
set_option maxHeartbeats 4000000 in
/-- The iterator over a list of one known account. -/
theorem back_known (n : Nat) (hn : 1 ≤ n) (l Bx g : Nat) (a : ByteArray) (J : Nat → World → Prop) (W : World)
    (hY : ∀ k W1, J k W1 → k < 1 → YieldAt (FW none) (n - 1) Tryd.prog l #[.int .i64 0, .agg #[.string a, .bool false, .int .u64 0, .int .u64 0, .int .u64 0, .int .u64 0, .int .u64 0, .string ⟨#[]⟩, .string ⟨#[]⟩, .bool false, .string ⟨#[]⟩, .slice none 0 0]] W1 fun e W' => e = .returned (.bool true) ∧ J (k + 1) W' ∧ True)
    (hb : W.heap[Bx]? = some (.cells #[.slice (some ⟨g, 0, none⟩) 1 1] 22 (0, 0)))
    (hg : W.heap[g]? = some (.cells #[.string a, .bool false, .int .u64 0, .int .u64 0, .int .u64 0, .int .u64 0, .int .u64 0, .string ⟨#[]⟩, .string ⟨#[]⟩, .bool false, .string ⟨#[]⟩, .slice none 0 0] 65 (0, 0))) (h0 : J 0 W) :
    CallsIn (FW none) n Tryd.prog 56 #[.func (.yield l) #[] #[], .pointer (some ⟨Bx, 0, none⟩)] W fun e W' => (∃ v, e = .returned v) ∧ J 1 W' := by
  have cb : W.cell? ⟨Bx, 0, none⟩ = some (.slice (some ⟨g, 0, none⟩) 1 1) := by simp [World.cell?, hb]
  refine callsIn_of_wp Tryd.func56 rfl trivial ?_ rfl
  simp only [Tryd.ntmps56, List.size_toArray, List.length_cons, List.length_nil, Nat.reduceAdd, Nat.reduceSub, Array.replicate_succ, Array.replicate_zero, List.push_toArray, List.append_toArray, List.nil_append, List.cons_append]
  gi_wp2
  gi_loopw [3] (fun i wr => (i = .int .i64 0 ∧ J 0 wr ∧ wr = W) ∨ (i = .int .i64 (-1) ∧ J 1 wr)) (fun i _ => (intOf i + 1).toNat)
  case atStart => exact .inl ⟨by go_num, h0, rfl⟩
  case round =>
    rcases hrel with ⟨rfl, hJ, rfl⟩ | ⟨rfl, hJ⟩
    · obtain ⟨fn, tmps, assign, body, hy, hR⟩ := hY 0 wr hJ (by omega)
      have g0 : wr.cell? ⟨g, 0, none⟩ = some (.string a) := by simp [World.cell?, hg]
      have g1 : wr.cell? ⟨g, 1, none⟩ = some (.bool false) := by simp [World.cell?, hg]
      have g2 : wr.cell? ⟨g, 2, none⟩ = some (.int .u64 0) := by simp [World.cell?, hg]
      have g3 : wr.cell? ⟨g, 3, none⟩ = some (.int .u64 0) := by simp [World.cell?, hg]
      have g4 : wr.cell? ⟨g, 4, none⟩ = some (.int .u64 0) := by simp [World.cell?, hg]
      have g5 : wr.cell? ⟨g, 5, none⟩ = some (.int .u64 0) := by simp [World.cell?, hg]
      have g6 : wr.cell? ⟨g, 6, none⟩ = some (.int .u64 0) := by simp [World.cell?, hg]
      have g7 : wr.cell? ⟨g, 7, none⟩ = some (.string ⟨#[]⟩) := by simp [World.cell?, hg]
      have g8 : wr.cell? ⟨g, 8, none⟩ = some (.string ⟨#[]⟩) := by simp [World.cell?, hg]
      have g9 : wr.cell? ⟨g, 9, none⟩ = some (.bool false) := by simp [World.cell?, hg]
      have g10 : wr.cell? ⟨g, 10, none⟩ = some (.string ⟨#[]⟩) := by simp [World.cell?, hg]
      have g11 : wr.cell? ⟨g, 11, none⟩ = some (.slice none 0 0) := by simp [World.cell?, hg]
      gi_wp2
      refine hR.mono ?_
      rintro e W3 ⟨rfl, hJ3, _⟩
      gi_wp2
      go_roundw
      case rel => exact .inr ⟨by go_num, hJ3⟩
      case measure => simp [intOf]
    · gi_wp2
      go_end0
      exact ⟨⟨_, rfl⟩, hJ⟩

def kn0 (a : ByteArray) : Value := .agg #[.string a, .bool false, .int .u64 0, .int .u64 0, .int .u64 0, .int .u64 0, .int .u64 0, .string ⟨#[]⟩, .string ⟨#[]⟩, .bool false, .string ⟨#[]⟩, .slice none 0 0]
def word0 : Value := .agg #[.int .u64 0, .int .u64 0, .int .u64 0, .int .u64 0]
def D0 (a : ByteArray) : DataW Value := (DataW.map []).put (.string a.data.toList) (.held (kn0 a))
def D1 (a : ByteArray) : DataW Value := (DataW.map []).put (.string a.data.toList) (.held word0)

/-- Between two rounds of New. -/
structure nwI (w0 : World) (b : Nat) (a : ByteArray) (k : Nat) (W : World) : Prop where
  fr : Fr (fun j => j = b ∨ j = b + 1) w0 W
  m0 : if k = 0 then W.ownsMap Tryd.prog 9 heldR b 0 (.map []) else W.ownsMap Tryd.prog 9 heldR b 1 (D0 a)
  m1 : if k = 0 then W.ownsMap Tryd.prog 9 heldR (b + 1) 0 (.map []) else W.ownsMap Tryd.prog 9 heldR (b + 1) 1 (D1 a)

theorem nwI.below {w0 : World} {b : Nat} {a : ByteArray} {k : Nat} {W W' : World} (h : nwI w0 b a k W) (hb : Below W.heap.size W W') : nwI w0 b a k W' := by
  obtain ⟨h1, h2, h3⟩ := h
  refine ⟨h1.below hb, ?_, ?_⟩
  · split
    · rw [if_pos (by assumption)] at h2; exact owns_of h2 (hb.block _ h2.lt)
    · rw [if_neg (by assumption)] at h2; exact owns_of h2 (hb.block _ h2.lt)
  · split
    · rw [if_pos (by assumption)] at h3; exact owns_of h3 (hb.block _ h3.lt)
    · rw [if_neg (by assumption)] at h3; exact owns_of h3 (hb.block _ h3.lt)
theorem nwI.turned {w0 : World} {b : Nat} {a : ByteArray} {k l : Nat} {W W' : World} (h : nwI w0 b a k W) (hb : b + 1 < w0.heap.size) (hl : w0.heap.size ≤ l) (ht : recTurned l W W') : nwI w0 b a k W' := by
  obtain ⟨h1, h2, h3⟩ := h
  refine ⟨h1.turned hl ht, ?_, ?_⟩
  · split
    · rw [if_pos (by assumption)] at h2; exact owns_of h2 (ht.other (by omega))
    · rw [if_neg (by assumption)] at h2; exact owns_of h2 (ht.other (by omega))
  · split
    · rw [if_pos (by assumption)] at h3; exact owns_of h3 (ht.other (by omega))
    · rw [if_neg (by assumption)] at h3; exact owns_of h3 (ht.other (by omega))

theorem Backward_known (v : Value) (w : World) (h : ∃ a c d, v = .slice a c d) :
    Calls Tryd.prog 33 #[v] w fun e w' => e = .returned (.func (.func 56) #[] #[.pointer (some ⟨w.heap.size, 0, none⟩)]) ∧ w' = w.alloc (.cells #[v] 22) := by
  obtain ⟨a, c, d, rfl⟩ := h
  go_enter Tryd.func33, Tryd.ntmps33
  go_wp2
  go_ret
  exact ⟨rfl, rfl⟩

/-- What is known within a region that stores into a map. -/
structure mpR (W2 : World) (k : TypeId) (mb n : Nat) (D D' : DataW Value) (s : Bool) (w' : World) : Prop where
  fr : Fr (fun j => j = mb) W2 w'
  own : if s = true then w'.ownsMap Tryd.prog k heldR mb (n + 1) D' else w'.ownsMap Tryd.prog k heldR mb n D

theorem cells12 {w : World} {p : Nat} {c0 c1 c2 c3 c4 c5 c6 c7 c8 c9 c10 c11 : Value} {t : TypeId} (h : w.heap[p]? = some (.cells #[c0, c1, c2, c3, c4, c5, c6, c7, c8, c9, c10, c11] t (0, 0))) :
    w.cell? ⟨p, 0, none⟩ = some c0 ∧ w.cell? ⟨p, 1, none⟩ = some c1 ∧ w.cell? ⟨p, 2, none⟩ = some c2 ∧ w.cell? ⟨p, 3, none⟩ = some c3 ∧ w.cell? ⟨p, 4, none⟩ = some c4 ∧ w.cell? ⟨p, 5, none⟩ = some c5 ∧
    w.cell? ⟨p, 6, none⟩ = some c6 ∧ w.cell? ⟨p, 7, none⟩ = some c7 ∧ w.cell? ⟨p, 8, none⟩ = some c8 ∧ w.cell? ⟨p, 9, none⟩ = some c9 ∧ w.cell? ⟨p, 10, none⟩ = some c10 ∧ w.cell? ⟨p, 11, none⟩ = some c11 := by
  refine ⟨?_, ?_, ?_, ?_, ?_, ?_, ?_, ?_, ?_, ?_, ?_, ?_⟩ <;> simp [World.cell?, h]

set_option maxRecDepth 100000 in
set_option maxHeartbeats 16000000 in
theorem New_one {W : World} {g : Nat} (a : ByteArray) (ha : a.size ≤ maxLen)
    (hg : W.heap[g]? = some (.cells #[.string a, .bool false, .int .u64 0, .int .u64 0, .int .u64 0, .int .u64 0, .int .u64 0, .string ⟨#[]⟩, .string ⟨#[]⟩, .bool false, .string ⟨#[]⟩, .slice none 0 0] 65 (0, 0))) :
    Calls Tryd.prog 10 #[.slice (some ⟨g, 0, none⟩) 1 1] W fun e w' => e = .returned (.pointer (some ⟨W.heap.size + 6, 0, none⟩)) ∧ Below W.heap.size W w' ∧ stA w' W.heap.size (.slice none 0 0) (.slice none 0 0) ∧
      w'.ownsMap Tryd.prog 9 heldR W.heap.size 1 (D0 a) ∧ w'.ownsMap Tryd.prog 9 heldR (W.heap.size + 1) 1 (D1 a) ∧ w'.ownsMap Tryd.prog 83 heldR (W.heap.size + 2) 0 (.map []) := by
  have hmm := @run_makeMap Tryd.prog
  refine calls_FW (n := 9) ?_
  refine callsIn_of_wp_marks Tryd.func10 rfl trivial ?_ rfl
  simp only [Tryd.ntmps10, List.size_toArray, List.length_cons, List.length_nil, Nat.reduceAdd, Nat.reduceSub, Array.replicate_succ, Array.replicate_zero, List.push_toArray, List.append_toArray, List.nil_append, List.cons_append]
  gi_wp2_with (gi_at_call 33; refine (callsIn_FW (Backward_known _ _ ⟨_, _, _, rfl⟩)).mono ?_; rintro e w' ⟨rfl, rfl⟩)
  have bB : Below W.heap.size W (((((((((W.alloc (.map #[] 0)).alloc (.map #[] 0)).alloc (.map #[] 0)).alloc (.map #[] 0)).alloc (.map #[] 0)).alloc (.map #[] 0)).alloc (.cells #[.map (some W.heap.size), .map (some (W.heap.size + 1)), .map (some (W.heap.size + 1 + 1)), .map (some (W.heap.size + 1 + 1 + 1)), .map (some (W.heap.size + 1 + 1 + 1 + 1)), .map (some (W.heap.size + 1 + 1 + 1 + 1 + 1)), .slice none 0 0, .slice none 0 0] 73)).alloc (.cells #[.pointer (some ⟨W.heap.size + 1 + 1 + 1 + 1 + 1 + 1, 0, none⟩)] 27)).alloc (.cells #[.slice (some ⟨g, 0, none⟩) 1 1] 22)) := ((((((((((Below.refl _ W).alloc (Nat.le_refl _) _).alloc (by simp) _).alloc (by simp; try omega) _).alloc (by simp; try omega) _).alloc (by simp; try omega) _).alloc (by simp; try omega) _).alloc (by simp; try omega) _).alloc (by simp; try omega) _).alloc (by simp; try omega) _)
  have z0 : (((((((((W.alloc (.map #[] 0)).alloc (.map #[] 0)).alloc (.map #[] 0)).alloc (.map #[] 0)).alloc (.map #[] 0)).alloc (.map #[] 0)).alloc (.cells #[.map (some W.heap.size), .map (some (W.heap.size + 1)), .map (some (W.heap.size + 1 + 1)), .map (some (W.heap.size + 1 + 1 + 1)), .map (some (W.heap.size + 1 + 1 + 1 + 1)), .map (some (W.heap.size + 1 + 1 + 1 + 1 + 1)), .slice none 0 0, .slice none 0 0] 73)).alloc (.cells #[.pointer (some ⟨W.heap.size + 1 + 1 + 1 + 1 + 1 + 1, 0, none⟩)] 27)).alloc (.cells #[.slice (some ⟨g, 0, none⟩) 1 1] 22)).heap.size = W.heap.size + 9 := by simp
  have h6 : (((((((((W.alloc (.map #[] 0)).alloc (.map #[] 0)).alloc (.map #[] 0)).alloc (.map #[] 0)).alloc (.map #[] 0)).alloc (.map #[] 0)).alloc (.cells #[.map (some W.heap.size), .map (some (W.heap.size + 1)), .map (some (W.heap.size + 1 + 1)), .map (some (W.heap.size + 1 + 1 + 1)), .map (some (W.heap.size + 1 + 1 + 1 + 1)), .map (some (W.heap.size + 1 + 1 + 1 + 1 + 1)), .slice none 0 0, .slice none 0 0] 73)).alloc (.cells #[.pointer (some ⟨W.heap.size + 1 + 1 + 1 + 1 + 1 + 1, 0, none⟩)] 27)).alloc (.cells #[.slice (some ⟨g, 0, none⟩) 1 1] 22)).heap[W.heap.size + 1 + 1 + 1 + 1 + 1 + 1]? = some (.cells #[.map (some W.heap.size), .map (some (W.heap.size + 1)), .map (some (W.heap.size + 1 + 1)), .map (some (W.heap.size + 1 + 1 + 1)), .map (some (W.heap.size + 1 + 1 + 1 + 1)), .map (some (W.heap.size + 1 + 1 + 1 + 1 + 1)), .slice none 0 0, .slice none 0 0] 73 (0, 0)) := ((Below.heap_alloc _ _ _ (by simp; try omega)).trans ((Below.heap_alloc _ _ _ (by simp; try omega)).trans (heap_new (by simp))))
  have h7 : (((((((((W.alloc (.map #[] 0)).alloc (.map #[] 0)).alloc (.map #[] 0)).alloc (.map #[] 0)).alloc (.map #[] 0)).alloc (.map #[] 0)).alloc (.cells #[.map (some W.heap.size), .map (some (W.heap.size + 1)), .map (some (W.heap.size + 1 + 1)), .map (some (W.heap.size + 1 + 1 + 1)), .map (some (W.heap.size + 1 + 1 + 1 + 1)), .map (some (W.heap.size + 1 + 1 + 1 + 1 + 1)), .slice none 0 0, .slice none 0 0] 73)).alloc (.cells #[.pointer (some ⟨W.heap.size + 1 + 1 + 1 + 1 + 1 + 1, 0, none⟩)] 27)).alloc (.cells #[.slice (some ⟨g, 0, none⟩) 1 1] 22)).heap[W.heap.size + 1 + 1 + 1 + 1 + 1 + 1 + 1]? = some (.cells #[.pointer (some ⟨W.heap.size + 1 + 1 + 1 + 1 + 1 + 1, 0, none⟩)] 27 (0, 0)) := ((Below.heap_alloc _ _ _ (by simp; try omega)).trans (heap_new (by simp)))
  have h8 : (((((((((W.alloc (.map #[] 0)).alloc (.map #[] 0)).alloc (.map #[] 0)).alloc (.map #[] 0)).alloc (.map #[] 0)).alloc (.map #[] 0)).alloc (.cells #[.map (some W.heap.size), .map (some (W.heap.size + 1)), .map (some (W.heap.size + 1 + 1)), .map (some (W.heap.size + 1 + 1 + 1)), .map (some (W.heap.size + 1 + 1 + 1 + 1)), .map (some (W.heap.size + 1 + 1 + 1 + 1 + 1)), .slice none 0 0, .slice none 0 0] 73)).alloc (.cells #[.pointer (some ⟨W.heap.size + 1 + 1 + 1 + 1 + 1 + 1, 0, none⟩)] 27)).alloc (.cells #[.slice (some ⟨g, 0, none⟩) 1 1] 22)).heap[W.heap.size + 1 + 1 + 1 + 1 + 1 + 1 + 1 + 1]? = some (.cells #[.slice (some ⟨g, 0, none⟩) 1 1] 22 (0, 0)) := heap_new (by simp)
  have o0 : (((((((((W.alloc (.map #[] 0)).alloc (.map #[] 0)).alloc (.map #[] 0)).alloc (.map #[] 0)).alloc (.map #[] 0)).alloc (.map #[] 0)).alloc (.cells #[.map (some W.heap.size), .map (some (W.heap.size + 1)), .map (some (W.heap.size + 1 + 1)), .map (some (W.heap.size + 1 + 1 + 1)), .map (some (W.heap.size + 1 + 1 + 1 + 1)), .map (some (W.heap.size + 1 + 1 + 1 + 1 + 1)), .slice none 0 0, .slice none 0 0] 73)).alloc (.cells #[.pointer (some ⟨W.heap.size + 1 + 1 + 1 + 1 + 1 + 1, 0, none⟩)] 27)).alloc (.cells #[.slice (some ⟨g, 0, none⟩) 1 1] 22)).ownsMap Tryd.prog 9 heldR W.heap.size 0 (.map []) := owns_of (World.ownsMap_made W Tryd.prog 9 heldR) ((Below.heap_alloc _ _ _ (by simp; try omega)).trans ((Below.heap_alloc _ _ _ (by simp; try omega)).trans ((Below.heap_alloc _ _ _ (by simp; try omega)).trans ((Below.heap_alloc _ _ _ (by simp; try omega)).trans ((Below.heap_alloc _ _ _ (by simp; try omega)).trans ((Below.heap_alloc _ _ _ (by simp; try omega)).trans ((Below.heap_alloc _ _ _ (by simp; try omega)).trans (Below.heap_alloc _ _ _ (by simp)))))))))
  have o1 : (((((((((W.alloc (.map #[] 0)).alloc (.map #[] 0)).alloc (.map #[] 0)).alloc (.map #[] 0)).alloc (.map #[] 0)).alloc (.map #[] 0)).alloc (.cells #[.map (some W.heap.size), .map (some (W.heap.size + 1)), .map (some (W.heap.size + 1 + 1)), .map (some (W.heap.size + 1 + 1 + 1)), .map (some (W.heap.size + 1 + 1 + 1 + 1)), .map (some (W.heap.size + 1 + 1 + 1 + 1 + 1)), .slice none 0 0, .slice none 0 0] 73)).alloc (.cells #[.pointer (some ⟨W.heap.size + 1 + 1 + 1 + 1 + 1 + 1, 0, none⟩)] 27)).alloc (.cells #[.slice (some ⟨g, 0, none⟩) 1 1] 22)).ownsMap Tryd.prog 9 heldR (W.heap.size + 1) 0 (.map []) := by
    have h := World.ownsMap_made (W.alloc (.map #[] 0)) Tryd.prog 9 heldR
    rw [World.size_alloc] at h
    exact owns_of h ((Below.heap_alloc _ _ _ (by simp; try omega)).trans ((Below.heap_alloc _ _ _ (by simp; try omega)).trans ((Below.heap_alloc _ _ _ (by simp; try omega)).trans ((Below.heap_alloc _ _ _ (by simp; try omega)).trans ((Below.heap_alloc _ _ _ (by simp; try omega)).trans ((Below.heap_alloc _ _ _ (by simp; try omega)).trans (Below.heap_alloc _ _ _ (by simp))))))))
  have o2 : (((((((((W.alloc (.map #[] 0)).alloc (.map #[] 0)).alloc (.map #[] 0)).alloc (.map #[] 0)).alloc (.map #[] 0)).alloc (.map #[] 0)).alloc (.cells #[.map (some W.heap.size), .map (some (W.heap.size + 1)), .map (some (W.heap.size + 1 + 1)), .map (some (W.heap.size + 1 + 1 + 1)), .map (some (W.heap.size + 1 + 1 + 1 + 1)), .map (some (W.heap.size + 1 + 1 + 1 + 1 + 1)), .slice none 0 0, .slice none 0 0] 73)).alloc (.cells #[.pointer (some ⟨W.heap.size + 1 + 1 + 1 + 1 + 1 + 1, 0, none⟩)] 27)).alloc (.cells #[.slice (some ⟨g, 0, none⟩) 1 1] 22)).ownsMap Tryd.prog 83 heldR (W.heap.size + 2) 0 (.map []) := by
    have h := World.ownsMap_made ((W.alloc (.map #[] 0)).alloc (.map #[] 0)) Tryd.prog 83 heldR
    rw [World.size_alloc, World.size_alloc] at h
    exact owns_of h ((Below.heap_alloc _ _ _ (by simp; try omega)).trans ((Below.heap_alloc _ _ _ (by simp; try omega)).trans ((Below.heap_alloc _ _ _ (by simp; try omega)).trans ((Below.heap_alloc _ _ _ (by simp; try omega)).trans ((Below.heap_alloc _ _ _ (by simp; try omega)).trans (Below.heap_alloc _ _ _ (by simp)))))))
  generalize ((((((((W.alloc (.map #[] 0)).alloc (.map #[] 0)).alloc (.map #[] 0)).alloc (.map #[] 0)).alloc (.map #[] 0)).alloc (.map #[] 0)).alloc (.cells #[.map (some W.heap.size), .map (some (W.heap.size + 1)), .map (some (W.heap.size + 1 + 1)), .map (some (W.heap.size + 1 + 1 + 1)), .map (some (W.heap.size + 1 + 1 + 1 + 1)), .map (some (W.heap.size + 1 + 1 + 1 + 1 + 1)), .slice none 0 0, .slice none 0 0] 73)).alloc (.cells #[.pointer (some ⟨W.heap.size + 1 + 1 + 1 + 1 + 1 + 1, 0, none⟩)] 27)).alloc (.cells #[.slice (some ⟨g, 0, none⟩) 1 1] 22) = w0 at *
  refine wpIn_rangeFunc_list (by omega) (gf := 56) (lb := #[.pointer (some ⟨W.heap.size + 1 + 1 + 1 + 1 + 1 + 1 + 1 + 1, 0, none⟩)]) rfl trivial (enters_of Tryd.func56 (by kernel_rfl) rfl)
    1 (fun _ => #[.int .i64 0, .agg #[.string a, .bool false, .int .u64 0, .int .u64 0, .int .u64 0, .int .u64 0, .int .u64 0, .string ⟨#[]⟩, .string ⟨#[]⟩, .bool false, .string ⟨#[]⟩, .slice none 0 0]]) (fun _ => rfl) (fun _ _ => True) (nwI w0 W.heap.size a) (fun k X Y h hb => h.below hb) (fun k l X Y h hl ht => h.turned (by omega) hl ht) (fun _ _ _ _ _ => trivial) (fun _ _ _ => trivial) (fun _ _ _ _ _ => trivial) ⟨Fr.refl _ _, o0, o1⟩ ?hiter ?hround ?hdone
  case hiter =>
    intro l J X hJI hJb hY hJ0 hbX
    have hgl := (Array.getElem?_eq_some_iff.1 hg).1
    exact back_known 8 (by omega) l _ g a J X hY ((hbX.block _ (by omega)).trans h8) ((hbX.block g (by omega)).trans ((bB.block g hgl).trans hg)) hJ0
  case hround =>
    intro l k X hl hI hk
    obtain rfl : k = 0 := by omega
    have hXs := hI.fr.size
    gi_wp2
    refine ⟨(Below.refl _ X).alloc (Nat.le_refl _) _, fun W2 ht => ?_⟩
    have v2 : W2.heap[X.heap.size]? = some (.cells #[.string a, .bool false, .int .u64 0, .int .u64 0, .int .u64 0, .int .u64 0, .int .u64 0, .string ⟨#[]⟩, .string ⟨#[]⟩, .bool false, .string ⟨#[]⟩, .slice none 0 0] 65 (0, 0)) := ht.cells (heap_new rfl) rfl
    have ho : ∀ j, j < w0.heap.size → W2.heap[j]? = X.heap[j]? := fun j hj => (ht.other (by omega)).trans (Below.heap_alloc _ _ _ (by omega))
    have s2 := (ho (W.heap.size + 1 + 1 + 1 + 1 + 1 + 1) (by omega)).trans ((hI.fr.block _ (by omega) (by omega)).trans h6)
    have pp2 := (ho (W.heap.size + 1 + 1 + 1 + 1 + 1 + 1 + 1) (by omega)).trans ((hI.fr.block _ (by omega) (by omega)).trans h7)
    have q0 : W2.ownsMap Tryd.prog 9 heldR W.heap.size 0 (.map []) := owns_of (by simpa using hI.m0) (ho _ (by omega))
    have hW2s : X.heap.size + 1 ≤ W2.heap.size := by
      obtain ⟨x1, x2, x3, x4, rfl⟩ := ht
      have := (grownBy_putObj' (X.alloc (.cells #[.string a, .bool false, .int .u64 0, .int .u64 0, .int .u64 0, .int .u64 0, .int .u64 0, .string ⟨#[]⟩, .string ⟨#[]⟩, .bool false, .string ⟨#[]⟩, .slice none 0 0] 65)) l x2).size
      rw [World.size_alloc] at this
      exact this
    gi_wp2
    refine wpIn_flowU (r := some l) (σ := Bool) (fun k => ([1, 1, 1, 1, 1, 1, 1, 2] : List Nat).getD k 1) (mpR W2 9 (W.heap.size) 0 (.map []) (D0 a)) (fun _ => True) false ⟨Fr.drew (Fr.refl _ _), q0⟩ trivial (by kernel_rfl) (by kernel_rfl) ?_
    refine flowU_read (.pointer (some ⟨W.heap.size + 1 + 1 + 1 + 1 + 1 + 1, 0, none⟩)) rfl rfl (fun w' hR => ?_) (fun K hK => ?_)
    focus (have hq := (hR.fr.block (W.heap.size + 1 + 1 + 1 + 1 + 1 + 1 + 1) (by omega) (by omega)).trans pp2;  have x0 : w'.cell? ⟨W.heap.size + 1 + 1 + 1 + 1 + 1 + 1 + 1, 0, none⟩ = some (.pointer (some ⟨W.heap.size + 1 + 1 + 1 + 1 + 1 + 1, 0, none⟩)) := (by simp [World.cell?, hq]); clear hq hR; go_simp; done)
    (go_simp; refine hK _ ?_; clear hK K)
    refine flowU_read (.pointer (some ⟨W.heap.size + 1 + 1 + 1 + 1 + 1 + 1, 0, none⟩)) rfl rfl (fun w' hR => ?_) (fun K hK => ?_)
    focus (go_simp; done)
    (go_simp; refine hK _ ?_; clear hK K)
    refine flowU_read (.pointer (some ⟨W.heap.size + 1 + 1 + 1 + 1 + 1 + 1, 0, none⟩)) rfl rfl (fun w' hR => ?_) (fun K hK => ?_)
    focus (go_simp; done)
    (go_simp; refine hK _ ?_; clear hK K)
    refine flowU_read (.map (some (W.heap.size))) rfl rfl (fun w' hR => ?_) (fun K hK => ?_)
    focus (have hq := (hR.fr.block (W.heap.size + 1 + 1 + 1 + 1 + 1 + 1) (by omega) (by omega)).trans s2;  have x0 : w'.cell? ⟨W.heap.size + 1 + 1 + 1 + 1 + 1 + 1, 0, none⟩ = some (.map (some (W.heap.size))) := (by simp [World.cell?, hq]); clear hq hR; go_simp; done)
    (go_simp; refine hK _ ?_; clear hK K)
    refine flowU_read (.pointer (some ⟨X.heap.size, 0, none⟩)) rfl rfl (fun w' hR => ?_) (fun K hK => ?_)
    focus (go_simp; done)
    (go_simp; refine hK _ ?_; clear hK K)
    refine flowU_read (.string a) rfl rfl (fun w' hR => ?_) (fun K hK => ?_)
    focus (have hq := (hR.fr.block (X.heap.size) (by omega) (by omega)).trans v2; obtain ⟨x0, x1, x2, x3, x4, x5, x6, x7, x8, x9, x10, x11⟩ := cells12 hq; clear hq hR; go_simp; done)
    (go_simp; refine hK _ ?_; clear hK K)
    refine flowU_read (.agg #[.string a, .bool false, .int .u64 0, .int .u64 0, .int .u64 0, .int .u64 0, .int .u64 0, .string ⟨#[]⟩, .string ⟨#[]⟩, .bool false, .string ⟨#[]⟩, .slice none 0 0]) rfl rfl (fun w' hR => ?_) (fun K hK => ?_)
    focus (have hq := (hR.fr.block (X.heap.size) (by omega) (by omega)).trans v2; obtain ⟨x0, x1, x2, x3, x4, x5, x6, x7, x8, x9, x10, x11⟩ := cells12 hq; clear hq hR; go_simp; done)
    (go_simp; refine hK _ ?_; clear hK K)
    refine flowU_step (fun v s => v = undef ∧ s = true) (by decide) rfl ⟨undef, true, rfl, rfl⟩ (fun w' hR => ?_) (fun _ _ _ _ _ => trivial) (fun K hK v s2 hs2 => ?_)
    focus
      have hm := hR.own
      rw [if_neg (by simp)] at hm
      obtain ⟨w2, hrun, hm2, hgr⟩ := hm.update lawStr Tryd.underlying66 (by unfold maxLen; omega) (keyStr a ha) (val := .agg #[.string a, .bool false, .int .u64 0, .int .u64 0, .int .u64 0, .int .u64 0, .int .u64 0, .string ⟨#[]⟩, .string ⟨#[]⟩, .bool false, .string ⟨#[]⟩, .slice none 0 0]) (d := .held (.agg #[.string a, .bool false, .int .u64 0, .int .u64 0, .int .u64 0, .int .u64 0, .int .u64 0, .string ⟨#[]⟩, .string ⟨#[]⟩, .bool false, .string ⟨#[]⟩, .slice none 0 0])) (ps := []) rfl
      go_simp
      exact ⟨hR.fr.trans ⟨hgr.os, hgr.tape, hgr.output, hgr.size, fun j hj hT => hgr.block j hj (by simpa using hT)⟩, hm2⟩
    obtain ⟨rfl, rfl⟩ := hs2
    (go_simp; refine hK _ _ ?_; clear hK K)
    refine flowU_nil (fun W3 hR3 => ?_)
    have hs3 := hR3.fr.size
    have s3 := (hR3.fr.block (W.heap.size + 1 + 1 + 1 + 1 + 1 + 1) (by omega) (by omega)).trans s2
    have pp3 := (hR3.fr.block (W.heap.size + 1 + 1 + 1 + 1 + 1 + 1 + 1) (by omega) (by omega)).trans pp2
    have v3 := (hR3.fr.block X.heap.size (by omega) (by omega)).trans v2
    have q1 : W3.ownsMap Tryd.prog 9 heldR (W.heap.size + 1) 0 (.map []) := owns_of (by simpa using hI.m1) ((hR3.fr.block _ (by omega) (by omega)).trans (ho _ (by omega)))
    gi_wp2
    refine wpIn_flowU (r := some l) (σ := Bool) (fun k => ([1, 1, 1, 1, 1, 1, 1, 2] : List Nat).getD k 1) (mpR W3 9 (W.heap.size + 1) 0 (.map []) (D1 a)) (fun _ => True) false ⟨Fr.drew (Fr.refl _ _), q1⟩ trivial (by kernel_rfl) (by kernel_rfl) ?_
    refine flowU_read (.pointer (some ⟨W.heap.size + 1 + 1 + 1 + 1 + 1 + 1, 0, none⟩)) rfl rfl (fun w' hR => ?_) (fun K hK => ?_)
    focus (have hq := (hR.fr.block (W.heap.size + 1 + 1 + 1 + 1 + 1 + 1 + 1) (by omega) (by omega)).trans pp3;  have x0 : w'.cell? ⟨W.heap.size + 1 + 1 + 1 + 1 + 1 + 1 + 1, 0, none⟩ = some (.pointer (some ⟨W.heap.size + 1 + 1 + 1 + 1 + 1 + 1, 0, none⟩)) := (by simp [World.cell?, hq]); clear hq hR; go_simp; done)
    (go_simp; refine hK _ ?_; clear hK K)
    refine flowU_read (.pointer (some ⟨W.heap.size + 1 + 1 + 1 + 1 + 1 + 1, 0, none⟩)) rfl rfl (fun w' hR => ?_) (fun K hK => ?_)
    focus (go_simp; done)
    (go_simp; refine hK _ ?_; clear hK K)
    refine flowU_read (.pointer (some ⟨W.heap.size + 1 + 1 + 1 + 1 + 1 + 1, 1, none⟩)) rfl rfl (fun w' hR => ?_) (fun K hK => ?_)
    focus (go_simp; done)
    (go_simp; refine hK _ ?_; clear hK K)
    refine flowU_read (.map (some (W.heap.size + 1))) rfl rfl (fun w' hR => ?_) (fun K hK => ?_)
    focus (have hq := (hR.fr.block (W.heap.size + 1 + 1 + 1 + 1 + 1 + 1) (by omega) (by omega)).trans s3;  have x0 : w'.cell? ⟨W.heap.size + 1 + 1 + 1 + 1 + 1 + 1, 1, none⟩ = some (.map (some (W.heap.size + 1))) := (by simp [World.cell?, hq]); clear hq hR; go_simp; done)
    (go_simp; refine hK _ ?_; clear hK K)
    refine flowU_read (.pointer (some ⟨X.heap.size, 0, none⟩)) rfl rfl (fun w' hR => ?_) (fun K hK => ?_)
    focus (go_simp; done)
    (go_simp; refine hK _ ?_; clear hK K)
    refine flowU_read (.string a) rfl rfl (fun w' hR => ?_) (fun K hK => ?_)
    focus (have hq := (hR.fr.block (X.heap.size) (by omega) (by omega)).trans v3; obtain ⟨x0, x1, x2, x3, x4, x5, x6, x7, x8, x9, x10, x11⟩ := cells12 hq; clear hq hR; go_simp; done)
    (go_simp; refine hK _ ?_; clear hK K)
    refine flowU_read (.agg #[.int .u64 0, .int .u64 0, .int .u64 0, .int .u64 0]) rfl rfl (fun w' hR => ?_) (fun K hK => ?_)
    focus (go_simp; done)
    (go_simp; refine hK _ ?_; clear hK K)
    refine flowU_step (fun v s => v = undef ∧ s = true) (by decide) rfl ⟨undef, true, rfl, rfl⟩ (fun w' hR => ?_) (fun _ _ _ _ _ => trivial) (fun K hK v s2 hs2 => ?_)
    focus
      have hm := hR.own
      rw [if_neg (by simp)] at hm
      obtain ⟨w2, hrun, hm2, hgr⟩ := hm.update lawStr Tryd.underlying67 (by unfold maxLen; omega) (keyStr a ha) (val := .agg #[.int .u64 0, .int .u64 0, .int .u64 0, .int .u64 0]) (d := .held (.agg #[.int .u64 0, .int .u64 0, .int .u64 0, .int .u64 0])) (ps := []) rfl
      go_simp
      exact ⟨hR.fr.trans ⟨hgr.os, hgr.tape, hgr.output, hgr.size, fun j hj hT => hgr.block j hj (by simpa using hT)⟩, hm2⟩
    obtain ⟨rfl, rfl⟩ := hs2
    (go_simp; refine hK _ _ ?_; clear hK K)
    refine flowU_nil (fun W4 hR4 => ?_)
    have hs4 := hR4.fr.size
    have v4 := (hR4.fr.block X.heap.size (by omega) (by omega)).trans v3
    obtain ⟨_, y1, _⟩ := cells12 v4
    gi_wp2
    have hb34 : ∀ j, j < W2.heap.size → j ≠ W.heap.size → j ≠ W.heap.size + 1 → W4.heap[j]? = W2.heap[j]? := fun j hj n0 n1 => (hR4.fr.block j (by omega) n1).trans (hR3.fr.block j hj n0)
    have hB2 : Fr (fun j => j = W.heap.size ∨ j = W.heap.size + 1) w0 W2 := (hI.fr.alloc _).turned hl ht
    refine ⟨⟨by omega, fun j o hj1 hj2 _ => (hb34 j (Array.getElem?_eq_some_iff.1 hj2).1 (by omega) (by omega)).trans hj2⟩, ?_, ?_, ?_⟩
    · exact ⟨hR4.fr.os.trans (hR3.fr.os.trans hB2.os), hR4.fr.tape.trans (hR3.fr.tape.trans hB2.tape), hR4.fr.output.trans (hR3.fr.output.trans hB2.output), by omega, fun j hj hT => (hb34 j (by omega) (fun e => hT (.inl e)) (fun e => hT (.inr e))).trans (hB2.block j hj hT)⟩
    · rw [if_neg (by decide)]
      exact owns_of (by simpa using hR3.own) (hR4.fr.block _ (by omega) (by omega))
    · rw [if_neg (by decide)]
      simpa using hR4.own
  case hdone =>
    intro D X hD hI hd
    have hXs := hI.fr.size
    have h7' := (hI.fr.block (W.heap.size + 1 + 1 + 1 + 1 + 1 + 1 + 1) (by omega) (by omega)).trans h7
    have h6' := (hI.fr.block (W.heap.size + 1 + 1 + 1 + 1 + 1 + 1) (by omega) (by omega)).trans h6
    have c7 : X.cell? ⟨W.heap.size + 1 + 1 + 1 + 1 + 1 + 1 + 1, 0, none⟩ = some (.pointer (some ⟨W.heap.size + 1 + 1 + 1 + 1 + 1 + 1, 0, none⟩)) := by simp [World.cell?, h7']
    gi_wp2
    refine ⟨by simp, .inl ⟨_, _, rfl, run_takeDeferred hd, ?_⟩⟩
    have hfin : ∀ X', recTurned D X X' → Below W.heap.size W X' ∧ stA X' W.heap.size (.slice none 0 0) (.slice none 0 0) ∧ X'.ownsMap Tryd.prog 9 heldR W.heap.size 1 (D0 a) ∧ X'.ownsMap Tryd.prog 9 heldR (W.heap.size + 1) 1 (D1 a) ∧ X'.ownsMap Tryd.prog 83 heldR (W.heap.size + 2) 0 (.map []) := fun X' ht =>
      ⟨bB.trans ((hI.fr.turned hD ht).toBelow (by omega) (fun k hk => by rcases hk with h | h <;> omega)), (ht.other (by omega)).trans h6', owns_of (by simpa using hI.m0) (ht.other (by omega)), owns_of (by simpa using hI.m1) (ht.other (by omega)),
        owns_of o2 ((ht.other (by omega)).trans (hI.fr.block _ (by omega) (by omega)))⟩
    exact ⟨_, results_tmp rfl _ _ _, rfl, hfin _ ⟨_, _, hd, rfl, rfl⟩⟩
end Go.Proofs.YtcdjdnbdblpofaaDoor
