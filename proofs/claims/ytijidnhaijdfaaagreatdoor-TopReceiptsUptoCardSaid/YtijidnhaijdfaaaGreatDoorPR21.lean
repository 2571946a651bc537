/-
  The half bytes of a text: halves, Of; Common. Conditions: none.
-/
import Derived.RangeFuncBox
import Derived.LoopNIn
import Derived.LoopIn
import Derived.WalkMore
import Derived.Test.YtijidnhaijdfaaaGreatDoorPR3
import Derived.Test.YtijidnhaijdfaaaGreatDoorPR11
import Derived.Test.YtijidnhaijdfaaaGreatDoorPR14
import Derived.Test.YtijidnhaijdfaaaGreatDoorRLoop
namespace Go.Proofs.YtijidnhaijdfaaaGreatDoor
open Go.RowKit
attribute [local go_sem] leftBy leaves Oper.semAt_some
set_option linter.unusedSimpArgs false
set_option linter.unusedVariables false

theorem halves_any (s : ByteArray) (W : World) : Calls Tryz.prog 64 #[.string s] W fun e w' => e = .returned (.func (.func 86) #[] #[.pointer (some ⟨W.heap.size, 0, none⟩)]) ∧ w' = W.alloc (.cells #[.string s] 9) := by
  go_enter Tryz.func64, Tryz.ntmps64
  go_wp2
  go_ret
  exact ⟨rfl, rfl⟩
def halfV (s : Bs) (k : Nat) : Value := .int .u8 (((halves s).getD k 0).toNat : Nat)
theorem halfV_even {s : Bs} {i : Nat} {b : UInt8} (h : s[i]? = some b) : halfV s (2 * i) = .int .u8 ((b.toNat : Int) / 16) := by
  have := (halves_get s i b h).1
  have hb := b.toNat_lt
  unfold halfV
  rw [List.getD_eq_getElem?_getD, this, Option.getD_some, u8_of (by omega)]
  congr 1
theorem halfV_odd {s : Bs} {i : Nat} {b : UInt8} (h : s[i]? = some b) : halfV s (2 * i + 1) = .int .u8 (bits .and .u8 (b.toNat : Int) 15) := by
  have := (halves_get s i b h).2
  have hb := b.toNat_lt
  unfold halfV
  rw [List.getD_eq_getElem?_getD, this, Option.getD_some, u8_of (by omega)]
  have e := u8_and_nat b.toNat 15 hb (by decide)
  rw [show ((15 : Nat) : Int) = 15 from rfl] at e
  rw [e, show b.toNat &&& 15 = b.toNat % 16 from Nat.and_two_pow_sub_one_eq_mod b.toNat 4]
set_option maxRecDepth 100000 in
set_option maxHeartbeats 8000000 in
theorem halves_it (n : Nat) (hn : 1 ≤ n) (l B : Nat) (s : Bs) (hs : s.length ≤ 1000000) (J : Nat → World → Prop) (W : World) (hJb : ∀ k W W', J k W → Below W.heap.size W W' → J k W')
    (hB : ∀ k W1, J k W1 → W1.cell? ⟨B, 0, none⟩ = some (.string (bsS s)))
    (hY : ∀ k W1, J k W1 → k < 2 * s.length → YieldAt (FW none) (n - 1) Tryz.prog l #[halfV s k] W1 fun e W' => e = .returned (.bool true) ∧ J (k + 1) W' ∧ True) (h0 : J 0 W) :
    CallsIn (FW none) n Tryz.prog 86 #[.func (.yield l) #[] #[], .pointer (some ⟨B, 0, none⟩)] W fun e W' => (∃ v, e = .returned v) ∧ J (2 * s.length) W' := by
  have hz := bsS_size s
  have hb0 := hB 0 W h0
  refine callsIn_of_wp Tryz.func86 rfl trivial ?_ rfl
  simp only [Tryz.ntmps86, List.size_toArray, List.length_cons, List.length_nil, Nat.reduceAdd, Nat.reduceSub, Array.replicate_succ, Array.replicate_zero, List.push_toArray, List.append_toArray, List.nil_append, List.cons_append]
  gi_wp2
  gi_loopw [6] (fun v wr => ∃ i : Nat, i ≤ s.length ∧ v = .int .i64 (i : Nat) ∧ J (2 * i) wr) (fun v _ => s.length - (intOf v).toNat)
  case atStart => exact ⟨0, Nat.zero_le _, rfl, h0⟩
  case round =>
    obtain ⟨i, hi, rfl, hJ⟩ := hrel
    by_cases hil : i < s.length
    · obtain ⟨b, hb⟩ : ∃ b, s[i]? = some b := ⟨_, List.getElem?_eq_getElem hil⟩
      have hx := fun w => index_bs s i b hb w
      have hc0 := hB _ wr hJ
      obtain ⟨fn, tmps, assign, body, hy, hR⟩ := hY (2 * i) wr hJ (by omega)
      rw [halfV_even hb] at hy
      have hY2 := Lib.hid (hY (2 * i + 1))
      have hB2 := Lib.hid (hB (2 * i + 1))
      clear hY hB hJb
      refine wpIn_hide fun QQ hQQ => ?_
      gi_wp2
      refine hR.mono ?_
      rintro e W3 ⟨rfl, hJ3, _⟩
      have hc1 := hB2.out W3 hJ3
      obtain ⟨fn2, tmps2, assign2, body2, hy2, hR2⟩ := hY2.out W3 hJ3 (by omega)
      rw [halfV_odd hb] at hy2
      gi_wp2
      refine hR2.mono ?_
      rintro e W4 ⟨rfl, hJ4, _⟩
      gi_wp2
      refine hQQ.out _ _ _ ?_
      simp only [Exit.then, Exit.inBlock]
      go_roundw
      case rel => exact ⟨i + 1, by omega, by go_num, by rw [show 2 * (i + 1) = 2 * i + 1 + 1 by omega]; exact hJ4⟩
      case measure => simp [intOf]; omega
    · obtain rfl : i = s.length := by omega
      gi_wp2
      go_end0
      exact ⟨⟨_, rfl⟩, hJ⟩
theorem bld.same {w w' : World} {b : Nat} {v : Value} {xs : List Value} (h : bld w b v xs) (hk : ∀ q, (q = b ∨ v.ownBlock = some q) → cellsAt w q → w'.heap[q]? = w.heap[q]?) : bld w' b v xs := by
  refine h.imp ?_ ?_ <;> exact fun ⟨h1, h2, h3⟩ => ⟨(hk b (.inl rfl) ⟨_, _, _, h1⟩).trans h1, row_same h2 fun g hg hc => hk g (.inr hg) hc, h3⟩
theorem bld.own {w : World} {b : Nat} {v : Value} {xs : List Value} (h : bld w b v xs) : ∀ g, v.ownBlock = some g → b < g ∧ g < w.heap.size ∧ cellsAt w g := by
  intro g hg
  rcases h with h | h
  all_goals
    have h1 := h.own_lt g hg
    refine ⟨h1.1, h1.2, ?_⟩
    have h2 := h.own_cells g _ hg (Array.getElem?_eq_getElem h1.2)
    cases ho : w.heap[g]'h1.2 with
    | cells c t f => exact ⟨c, t, f, by rw [Array.getElem?_eq_getElem h1.2, ho]⟩
    | _ => rw [ho] at h2; cases h2
/-- String; whatever is no cells stays as it was. -/
theorem String_kept {w : World} {b : Nat} {v : Value} {l : List UInt8} (h : bld w b v (Lib.byteCells l)) :
    Calls Tryz.prog 40 #[.pointer (some ⟨b, 0, none⟩)] w fun e w' => e = .returned (.string ⟨l.toArray⟩) ∧ Below b w w' ∧ ∀ (j : Nat) (o : Obj), w.heap[j]? = some o → o.isCells = false → w'.heap[j]? = some o := by
  refine (Any.Builder_String_any_k (ρ := lays156_ren) { lays156 with } Builder_Extra_156 b b l w (Lib.IsBuilderF.of h.is) (by rcases h with h | h <;> exact Nat.le_of_lt h.lt)).mono ?_
  rintro e w' ⟨rfl, _, hb, hk⟩
  refine ⟨rfl, hb, fun j o hj ho => hk j o hj (fun e => ?_) (fun c fz e => ?_)⟩
  · obtain rfl : j = b := by simpa using e
    have h1 : ∃ p, bldP w j p v (Lib.byteCells l) := by rcases h with h | h <;> exact ⟨_, h⟩
    obtain ⟨p, h1⟩ := h1
    rw [h1.1] at hj
    cases hj
    cases ho
  · subst e
    cases ho
/-- Between two half bytes of Of. -/
structure ofJ (W0 : World) (s : Bs) (k : Nat) (X : World) : Prop where
  fr : Below W0.heap.size W0 X
  size : W0.heap.size + 2 ≤ X.heap.size
  box : X.heap[W0.heap.size + 1]? = some (.cells #[.string (bsS s)] 9 (0, 0))
  bld : ∃ v, bld X W0.heap.size v (Lib.byteCells ((halves s).take k)) ∧ ∀ g, v.ownBlock = some g → W0.heap.size + 2 ≤ g
theorem ofJ.keep {W0 X X' : World} {s : Bs} {k : Nat} (h : ofJ W0 s k X) (hb : Below W0.heap.size X X') (hk : ∀ q, cellsAt X q → X'.heap[q]? = X.heap[q]?) : ofJ W0 s k X' := by
  obtain ⟨fr, hz, box, v, hv, hg⟩ := h
  exact ⟨fr.trans hb, Nat.le_trans hz hb.size, (hk _ ⟨_, _, _, box⟩).trans box, v, hv.same fun q _ hc => hk q hc, hg⟩
theorem ofJ.below {W0 X X' : World} {s : Bs} {k : Nat} (h : ofJ W0 s k X) (hb : Below X.heap.size X X') : ofJ W0 s k X' :=
  h.keep (hb.mono (by have := h.size; omega)) fun q hc => hb.block q hc.lt
theorem ofJ.turned {W0 X X' : World} {s : Bs} {k l : Nat} (h : ofJ W0 s k X) (hl : W0.heap.size ≤ l) (ht : recTurned l X X') : ofJ W0 s k X' :=
  h.keep (turned_below ht hl) fun q hc => ht.cellsAt hc
set_option maxRecDepth 100000 in
set_option maxHeartbeats 8000000 in
theorem Of_any (s : Bs) (hs : s.length ≤ 100000) (W : World) : Calls Tryz.prog 43 #[.string (bsS s)] W fun e w' => e = .returned (.string (bsS (halves s))) ∧ Below W.heap.size W w' := by
  have hhl := halves_length s
  refine calls_FW (n := 9) ?_
  refine callsIn_of_wp_marks Tryz.func43 rfl trivial ?_ rfl
  simp only [Tryz.ntmps43, List.size_toArray, List.length_cons, List.length_nil, Nat.reduceAdd, Nat.reduceSub, Array.replicate_succ, Array.replicate_zero, List.push_toArray, List.append_toArray, List.nil_append, List.cons_append]
  gi_wp2_with (gi_at_call 64; refine (callsIn_FW (halves_any _ _)).mono ?_; rintro e w' ⟨rfl, rfl⟩)
  have bB : Below W.heap.size W ((W.alloc (.cells #[.pointer none, .slice none 0 0] 94)).alloc (.cells #[.string (bsS s)] 9)) := ((Below.refl _ W).alloc (Nat.le_refl _) _).alloc (by simp) _
  have z0 : ((W.alloc (.cells #[.pointer none, .slice none 0 0] 94)).alloc (.cells #[.string (bsS s)] 9)).heap.size = W.heap.size + 2 := by simp
  have h0 : ((W.alloc (.cells #[.pointer none, .slice none 0 0] 94)).alloc (.cells #[.string (bsS s)] 9)).heap[W.heap.size]? = _ := (Below.heap_alloc _ _ _ (by simp)).trans (heap_new rfl)
  have h1 : ((W.alloc (.cells #[.pointer none, .slice none 0 0] 94)).alloc (.cells #[.string (bsS s)] 9)).heap[W.heap.size + 1]? = _ := heap_new (by simp)
  generalize ((W.alloc (.cells #[.pointer none, .slice none 0 0] 94)).alloc (.cells #[.string (bsS s)] 9)) = w0 at *
  have hst : ofJ W s 0 w0 := ⟨bB, by omega, h1, .slice none 0 0, .inl ⟨h0, ⟨rfl, .inl ⟨rfl, rfl⟩⟩, fun h => by cases h⟩, fun g h => by cases h⟩
  refine wpIn_rangeFunc_list (by omega) (gf := 86) (lb := #[.pointer (some ⟨W.heap.size + 1, 0, none⟩)]) rfl trivial (enters_of Tryz.func86 (by kernel_rfl) rfl)
    (2 * s.length) (fun k => #[halfV s k]) (fun _ => rfl) (fun _ _ => True) (ofJ W s) (fun k X Y h hb => h.below hb) (fun k l X Y h hl ht => h.turned (by omega) ht) (fun _ _ _ _ _ => trivial) (fun _ _ _ => trivial) (fun _ _ _ _ _ => trivial) hst ?hiter ?hround ?hdone
  case hiter =>
    intro l J X hJI hJb hY hJ0 hbX
    exact halves_it 8 (by omega) l (W.heap.size + 1) s (by omega) J X hJb (fun k Y hJ => by
      have := Lib.cell_of_heap (hJI k Y hJ).box 0
      exact this) hY hJ0
  case hround =>
    intro l k X hl hI hk
    gi_wp2
    refine ⟨Below.refl _ _, fun W2 ht => ?_⟩
    have hI2 := hI.turned (by omega) ht
    obtain ⟨fr, hz, box, v, hv, hg⟩ := hI2
    have hlen : (Lib.byteCells ((halves s).take k)).length ≤ 4000000 := by
      rw [byteCells_length, List.length_take]
      omega
    unfold halfV
    clear hI ht
    gi_wp2_with (gi_at_call 65; refine (callsIn_FW (WriteByte_any hv _ hlen)).mono ?_; rintro e W3 ⟨rfl, v', hv', hwr⟩)
    have s3 := hwr.below.size
    have hk2 : k < (halves s).length := by omega
    refine ⟨trivial, ⟨s3, fun q o hq ho hc => (hwr.block q (Array.getElem?_eq_some_iff.1 ho).1 (by omega) fun h => ?_).trans ho⟩, trivial, fr.trans hwr.below, by omega, (hwr.block _ (by omega) (by omega) fun h => ?_).trans box, v', .inr ?_, fun g h => ?_⟩
    · obtain ⟨c, t, f, hcc⟩ := (hv.own q h).2.2
      rw [ho] at hcc
      obtain rfl := Option.some.inj hcc
      cases hc
    · have := hg _ h
      omega
    · rw [List.take_succ_eq_append_getElem hk2, byteCells_append]
      exact hv'
    · rcases hwr.own g h with h | h
      · exact hg g h
      · omega
  case hdone =>
    intro D X hD hI hd
    obtain ⟨fr, hz, box, v, hv, hg⟩ := hI
    rw [← hhl, List.take_length] at hv
    gi_wp2_with (gi_at_call 40; refine (callsIn_FW (String_kept hv)).mono ?_; rintro e W3 ⟨rfl, hb3, hk3⟩)
    have hd3 := hk3 D _ hd rfl
    refine ⟨by simp, .inl ⟨_, _, rfl, run_takeDeferred hd3, _, results_tmp rfl _ _ _, rfl, (fr.trans hb3).trans ((below_putObj _ hd3).mono (by omega))⟩⟩
end Go.Proofs.YtijidnhaijdfaaaGreatDoor
