/-
  The places that may be jumped to: the contracts of code.operations, of code.Jumps and of the document's Jumps. Conditions: none.
-/
import Derived.RangeFuncBox
import Derived.Shelf.Abstract
import Derived.Shelf.RegionOpen
import Derived.OwnWalkIn
import Derived.Maps.AppendAt
import Derived.LoopNIn
import Derived.LoopIn
import Derived.WalkMore
import Derived.Laws.OwnMore
import Derived.Test.YtjdhkdmcglnihaaCRef
import Derived.Test.YtjdhkdmcglnihaaScope
namespace Go.Proofs.Ytjdhkdmcglnihaa
open Go.RowKit Go.Shelf
attribute [local go_sem] leftBy Oper.semAt_some
set_option linter.unusedSimpArgs false
set_option linter.unusedVariables false

/-- What is next. -/
def nxt (s : ByteArray) (k : Nat) : Nat := k + 1 + nD (byteD s k)
theorem nxt_lt (s : ByteArray) (k : Nat) : k < nxt s k ∧ nxt s k ≤ k + 33 := by
  have := nD_le (byteD s k)
  unfold nxt
  omega

/-- The places of the operations, from a place on. -/
def opsN (s : ByteArray) : Nat → Nat → List Nat
  | 0, _ => []
  | f + 1, k => if k < s.size then k :: opsN s f (nxt s k) else []
theorem opsN_end (s : ByteArray) (f k : Nat) (h : s.size ≤ k) : opsN s f k = [] := by
  cases f with
  | zero => rfl
  | succ f => exact if_neg (by omega)
theorem opsN_more (s : ByteArray) (f k : Nat) (h : k < s.size) : opsN s (f + 1) k = k :: opsN s f (nxt s k) := if_pos h
theorem opsN_length (s : ByteArray) : ∀ f k, (opsN s f k).length ≤ f
  | 0, _ => Nat.le_refl _
  | f + 1, k => by
    unfold opsN
    split
    · have := opsN_length s f (nxt s k)
      simp
      exact this
    · simp

abbrev Pl (s : ByteArray) := { k : Nat // k < s.size }

/-- Those of some places that may be jumped to. -/
def jmp (s : ByteArray) (l : List Nat) : List Nat := l.filter fun k => byteD s k == 91
def jumpsN (s : ByteArray) : List Nat := jmp s (opsN s s.size 0)
theorem jmp_hit {s : ByteArray} (l : List Nat) {k : Nat} (h : byteD s k = 91) : jmp s (l ++ [k]) = jmp s l ++ [k] := by simp [jmp, h]
theorem jmp_miss {s : ByteArray} (l : List Nat) {k : Nat} (h : ¬ byteD s k = 91) : jmp s (l ++ [k]) = jmp s l := by simp [jmp, h]
theorem jmp_length (s : ByteArray) (l : List Nat) : (jmp s l).length ≤ l.length := List.length_filter_le _ _

theorem grown_of_below {W W' : World} (h : Below W.heap.size W W') : W.grownBy W' none := ⟨h.os, h.tape, h.output, h.size, fun k hk _ => h.block k hk⟩

def natV (k : Nat) : Value := .int .i64 (k : Nat)

set_option maxRecDepth 100000 in
set_option maxHeartbeats 2000000 in
theorem ops_in (n : Nat) (hn : 1 ≤ n) (l Bn : Nat) (s : ByteArray) (hs : s.size ≤ 4194304) (J Jx : List (Pl s) → World → Prop) (W : World)
    (hJ : AbidesFrom W.heap.size J)
    (hY : ∀ pre (p : Pl s) W, J pre W → pre.length < s.size → YieldAt (FW none) (n - 1) Try.prog l #[.int .i64 (p.val : Nat), .int .u8 (byteD s p.val : Nat)] W fun e W' =>
      (e = .returned (.bool true) ∧ J (pre ++ [p]) W' ∧ KB Bn Bn W W') ∨ (e = .returned (.bool false) ∧ Jx (pre ++ [p]) W'))
    (hBn : W.cell? ⟨Bn, 0, none⟩ = some (.string s)) (hlt : Bn < W.heap.size) (h0 : J [] W) :
    CallsIn (FW none) n Try.prog 29 #[.func (.yield l) #[] #[], .pointer (some ⟨Bn, 0, none⟩)] W fun e W' => (∃ v, e = .returned v) ∧
      ((∃ ys : List (Pl s), ys.map (·.val) = opsN s s.size 0 ∧ J ys W') ∨ (∃ pre, True ∧ Jx pre W')) := by
  refine callsIn_of_wp Try.func29 rfl trivial ?_ rfl
  simp only [Try.ntmps29, List.size_toArray, List.length_cons, List.length_nil, Nat.reduceAdd, Nat.reduceSub, Array.replicate_succ, Array.replicate_zero, List.push_toArray, List.append_toArray, List.nil_append, List.cons_append]
  gi_wp2
  gi_loopw [3] (fun i wr => ∃ (f k : Nat) (pre : List (Pl s)), s.size ≤ f + k ∧ k ≤ s.size + 33 ∧ i = .int .i64 k ∧ Hid (opsN s s.size 0 = pre.map (·.val) ++ opsN s f k) ∧ J pre wr ∧ KB Bn Bn W wr)
    (fun i _ => s.size - (intOf i).toNat)
  case atStart => exact ⟨s.size, 0, [], by omega, by omega, by go_num, rfl, h0, rfl, rfl⟩
  case round =>
    obtain ⟨f, k, pre, hf, hk, rfl, hpre, hJp, hkb⟩ := hrel
    have hB2 : wr.cell? ⟨Bn, 0, none⟩ = some (.string s) := (World.cell?_of_block (w := W) hkb.1).trans hBn
    by_cases hks : k < s.size
    · obtain ⟨f, rfl⟩ : ∃ g, f = g + 1 := ⟨f - 1, by omega⟩
      have hki : (k : Int) < (s.size : Int) := by omega
      have hlen : pre.length < s.size := by
        have h1 := congrArg List.length hpre.out
        rw [opsN_more s f k hks] at h1
        simp only [List.length_append, List.length_map, List.length_cons] at h1
        have := opsN_length s s.size 0
        omega
      have hstep : Hid (opsN s s.size 0 = (pre ++ [(⟨k, hks⟩ : Pl s)]).map (·.val) ++ opsN s f (nxt s k)) := by
        show _ = _
        rw [hpre.out, opsN_more s f k hks]
        simp
      have hnx := nxt_lt s k
      have c1 := fun w => At_in s k hks (by omega) (by unfold maxLen; omega) w
      rw [show k + 1 + nD (byteD s k) = nxt s k from rfl] at c1
      have hYk := fun wa => hY pre ⟨k, hks⟩ wa
      dsimp only at hYk
      have hJk := fun wa (hb : Below wr.heap.size wr wa) => hJ pre wr wa none hJp (grown_of_below hb) (fun r e => by cases e)
      have hlr : Bn < wr.heap.size := (Array.getElem?_eq_some_iff.1 (hkb.1.trans (Array.getElem?_eq_getElem hlt))).1
      generalize dataS s k (nD (byteD s k)) = D at *
      generalize hbk : byteD s k = b at *
      clear hpre hY
      generalize nxt s k = q at *
      gi_wp2_with (gi_at_call 9; (with_reducible refine (callsIn_FW (c1 _)).mono ?_); rintro e wa ⟨rfl, hb_wa⟩; obtain ⟨fn, tmps, assign, body, hy, hR⟩ := hYk wa (hJk wa hb_wa) hlen)
      have hkb2 : KB Bn Bn wr wa := ⟨hb_wa.block Bn hlr, hb_wa.block Bn hlr⟩
      refine hR.mono ?_
      rintro e W3 (⟨rfl, hJ3, hk3⟩ | ⟨rfl, hJx3⟩)
      · gi_wp2
        go_roundw
        case rel => exact ⟨f, q, _, by omega, by omega, rfl, hstep, hJ3, (hk3.1.trans hkb2.1).trans hkb.1, (hk3.1.trans hkb2.1).trans hkb.1⟩
        case measure => simp [intOf]; omega
      · gi_wp2
        refine bodyPost_ret (results_none rfl _ _ _) rfl ?_
        exact ⟨⟨_, rfl⟩, .inr ⟨_, trivial, hJx3⟩⟩
    · have hki : ¬ (k : Int) < (s.size : Int) := by omega
      rw [opsN_end s f k (by omega), List.append_nil] at hpre
      gi_wp2
      go_end0
      exact ⟨⟨_, rfl⟩, .inl ⟨_, hpre.out.symm, hJp⟩⟩

/-- The value that operations hands back is an iterator over the operations. -/
theorem ops_stops (n : Nat) (hn : 1 ≤ n) (Bn : Nat) (s : ByteArray) (hs : s.size ≤ 4194304) (w : World) (hBw : Bn < w.heap.size) (hBn : w.cell? ⟨Bn, 0, none⟩ = some (.string s)) :
    SeqStopsK (FW none) n Try.prog 29 #[.pointer (some ⟨Bn, 0, none⟩)] (fun p : Pl s => #[.int .i64 (p.val : Nat), .int .u8 (byteD s p.val : Nat)]) (KB Bn Bn)
      (fun ys => ys.map (·.val) = opsN s s.size 0) (fun _ => True) s.size w := fun l J Jx W hW hJ _ hY h0 =>
  ops_in n hn l Bn s hs J Jx W hJ hY ((hW.cell (p := ⟨Bn, 0, none⟩) hBw).trans hBn) (Nat.lt_of_lt_of_le hBw hW.size) h0

set_option maxHeartbeats 400000 in
/-- operations. -/
theorem operations_any (s : ByteArray) (w : World) :
    Calls Try.prog 17 #[.string s] w fun e w' => e = .returned (.func (.func 29) #[] #[.pointer (some ⟨w.heap.size, 0, none⟩)]) ∧ w' = w.alloc (.cells #[.string s] 9) := by
  go_enter Try.func17, Try.ntmps17
  go_wp2
  go_ret
  exact ⟨rfl, rfl⟩

theorem infoI : (Try.prog.info? 3).map (fun i => (i.zero, i.size, i.bytes)) = some (some (.int .i64 0), 1, 8) := by kernel_rfl

theorem boxed_str {β : Type} (B : Nat) (t : TypeId) (v : Value) : Own (fun (_ : β) W => Boxed W B t v) := fun s X Y row hs hg hr => hs.kept hg fun e' => by
  obtain ⟨o, ho, hc⟩ := hr B e'.symm
  rw [show X.heap[B]? = _ from hs] at ho
  cases ho
  cases hc

/-- What Jumps returns: a slice of its own that holds the places. -/
def JumpsR (s : ByteArray) (w : World) (e : Ending) (w' : World) : Prop :=
  ∃ v, e = .returned v ∧ w'.ownsRow w.heap.size 3 1 v (jumpsN s).length ((jumpsN s).map natV) ∧ Below w.heap.size w w'

set_option maxRecDepth 100000 in
set_option maxHeartbeats 4000000 in
/-- code.Jumps. -/
theorem Jumps_any (s : ByteArray) (hs : s.size ≤ 4194304) (w : World) : Calls Try.prog 12 #[.string s] w (JumpsR s w) := by
  obtain ⟨i0, hi, hz0, hz1, hz2⟩ := info_parts infoI
  refine calls_FW (n := 9) ?_
  refine callsIn_of_wp_marks Try.func12 rfl trivial ?_ rfl
  simp only [Try.ntmps12, List.size_toArray, List.length_cons, List.length_nil, Nat.reduceAdd, Nat.reduceSub, Array.replicate_succ, Array.replicate_zero, List.push_toArray, List.append_toArray, List.nil_append, List.cons_append]
  gi_wp2
  refine wpIn_scope rfl ?_
  gi_wp2
  refine wpIn_label ?_
  gi_wp2_with (gi_at_call 17; refine (callsIn_FW (operations_any _ _)).mono ?_; rintro e w' ⟨rfl, rfl⟩)
  have bO := Boxed.new w 27 (.slice none 0 0)
  have bN := Boxed.new (w.alloc (.cells #[.slice none 0 0] 27)) 9 (.string s)
  rw [World.size_alloc] at bN
  have hB0 : Below w.heap.size w ((w.alloc (.cells #[.slice none 0 0] 27)).alloc (.cells #[.string s] 9)) := ((Below.refl _ w).alloc (Nat.le_refl _) _).alloc (by simp) _
  refine wpIn_rangeFunc_ownG rfl (by omega) (gf := 29) (lb := #[.pointer (some ⟨w.heap.size + 1, 0, none⟩)]) rfl trivial (enters_of Try.func29 (by kernel_rfl) rfl)
    (ops_stops (9 - 1) (by omega) (w.heap.size + 1) s hs _ (by simp) bN.cell) (fun h k => ⟨k.1.trans h.1, k.2.trans h.2⟩) (fun W l o o' hl h _ _ => ⟨World.putObj_heap_other (by simp at hl; omega), World.putObj_heap_other (by simp at hl; omega)⟩) (Below.refl _ _) (fun _ => rfl)
    (fun pre W => (∃ v, Boxed W w.heap.size 27 v ∧ W.ownsRow w.heap.size 3 1 v (jmp s (pre.map (·.val))).length ((jmp s (pre.map (·.val))).map natV) ∧ True) ∧ Boxed W (w.heap.size + 1) 9 (.string s) ∧ Below w.heap.size w W)
    (fun _ _ _ => False)
    (OwnFrom.and (Own.from (holdsRow_own w.heap.size w.heap.size 27 3 1 (fun pre : List (Pl s) => (jmp s (pre.map (·.val))).length) (fun pre => (jmp s (pre.map (·.val))).map natV) (fun pre v => True)) _) (OwnFrom.and (Own.from (boxed_str _ _ _) _) (ownFrom_below (Nat.le_refl _) (by simp; omega))))
    (fun _ _ _ _ _ hs _ _ => hs)
    ⟨⟨_, bO.alloc _, World.ownsRow_nil _ _ _ _, trivial⟩, bN, hB0⟩
    (fun p => { tmps := #[.string s, undef, .slice none 0 0, .pointer (some ⟨w.heap.size, 0, none⟩), .int .i64 (p.val : Nat), .int .u8 (byteD s p.val : Nat), .string s, .func (.func 29) #[] #[.pointer (some ⟨w.heap.size + 1, 0, none⟩)], .int .i64 (p.val : Nat), .int .u8 (byteD s p.val : Nat), undef, undef, undef, undef, undef, undef, undef], defers := [] }) ?assign ?body ?done ?stop
  case assign =>
    intro l p X K hK
    gi_wp2
    exact hK
  case body =>
    rintro l pre ⟨k, hk⟩ X ⟨⟨v, hv, hrow, _⟩, hbn, hB⟩ hlt
    have hc := hv.cell
    have hpl : (jmp s (pre.map (·.val))).length ≤ pre.length := by
      have := jmp_length s (pre.map (·.val))
      simpa using this
    by_cases hb : byteD s k = 91
    · have hit := jmp_hit (pre.map (·.val)) hb
      have hmp : (pre ++ [(⟨k, hk⟩ : Pl s)]).map (·.val) = pre.map (·.val) ++ [k] := by simp
      rw [← hmp] at hit
      generalize jmp s (pre.map (·.val)) = L at *
      clear hmp
      dsimp only
      rw [hb]
      have hmax : maxLen = 9223372036854775807 := rfl
      gi_wp2_with (gi_at_builtin; refine wpListIn_append_own _ rfl _ _ 27 rfl w.heap.size 3 i0 (.int .i64 0) 1 8 Try.underlying27 hi hz0 hz1 hz2 rfl (by decide) _ _ _ rfl (hrow.alloc _) ⟨X.heap.size, 0, none⟩ 1 1 [.int .i64 (k : Nat)] rfl rfl (cell_one_new _ _ _) (by simp [Value.oneCell']) (by omega) (by omega) (by have := hB.size; simp; omega) ?_; intro v' w1 hown' hgrow _; obtain ⟨g', cap', rfl⟩ := ownsRow_succ hown'; obtain ⟨hv1, hv2, hr2, hk2, hb2⟩ := hv.appended (by decide) hrow hB.size (Nat.le_refl _) hown' hgrow; have hc1 := hv1.cell; have hf1 := hv1.frozen)
      have hbn2 : Boxed (w1.setCell ⟨w.heap.size, 0, none⟩ (.slice (some ⟨g', 0, none⟩) (L.length + 1) cap')) (w.heap.size + 1) 9 (.string s) := ((hbn.alloc _).kept hgrow (hbn.not_row (by decide) hrow)).kept (grownBy_setCell' w1 w.heap.size _) (by simp)
      refine ⟨hk2.from _, ⟨hbn2.trans hbn.symm, hbn2.trans hbn.symm⟩, ⟨_, hv2, ?_, trivial⟩, hbn2, hB.trans hb2⟩
      rw [hit, List.length_append, List.map_append]
      exact hr2
    · have hit := jmp_miss (pre.map (·.val)) hb
      have hmp : (pre ++ [(⟨k, hk⟩ : Pl s)]).map (·.val) = pre.map (·.val) ++ [k] := by simp
      rw [← hmp] at hit
      have hbi : (((byteD s k : Nat) : Int) == 91) = false := by simp; omega
      have hbz : (((byteD s k : Nat) : Int) != 91) = true := by simp; omega
      dsimp only
      generalize jmp s (pre.map (·.val)) = L at *
      clear hmp
      replace hit := Lib.hid hit
      generalize hq : byteD s k = b at *
      clear hq
      gi_wp2
      refine ⟨KeepsFrom.refl _ _, ⟨rfl, rfl⟩, ⟨v, hv, ?_, trivial⟩, hbn, hB⟩
      rw [hit.out]
      exact hrow
  case done =>
    rintro D ys X hD hys ⟨⟨v, hv, hrow, _⟩, hbn, hB⟩ hK
    rw [hys] at hrow
    have hc := hv.cell
    gi_wp2
    refine ⟨by simp, .inl ⟨_, _, rfl, run_takeDeferred hK, ?_⟩⟩
    exact ⟨_, results_tmp rfl _ _ _, v, rfl, ownsRow_putObj hrow _ hK rfl, hB.trans (belowK_b (w := w) (Nat.le_refl _) X D _ _ (by simp at hD; omega) hK rfl rfl)⟩
  case stop =>
    rintro D c pre X _ _ h _
    exact h.elim
end Go.Proofs.Ytjdhkdmcglnihaa
