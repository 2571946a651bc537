/-
  The contract of word.Exp: a power. Conditions: none.
-/
import Derived.Test.YtmegpggpndjjcaaProd
import Derived.Test.YtmegpggpndjjcaaIter
import Derived.Test.YtmegpggpndjjcaaDivM
namespace Go.Proofs.Ytmegpggpndjjcaa
open Go.RowKit Go.Shelf
attribute [local go_sem] Oper.semAt_some
attribute [local go_sem] leftBy
set_option linter.unusedSimpArgs false
set_option linter.unusedVariables false

/-- A power, cut. -/
def powW (a n : Nat) : Nat := a ^ n % Q256
theorem powW_lt (a n : Nat) : powW a n < Q256 := Nat.mod_lt _ Q256_pos
theorem powW_zero (a : Nat) : powW a 0 = 1 := by unfold powW; rw [Nat.pow_zero]; decide +kernel
theorem powW_two (a n : Nat) : powW a (2 * n) = powW a n * powW a n % Q256 := by
  unfold powW
  rw [← Nat.mul_mod, ← Nat.pow_add]
  congr 2
  omega
theorem powW_succ (a n : Nat) : powW a (n + 1) = powW a n * a % Q256 := by
  unfold powW
  rw [Nat.pow_succ, Nat.mul_mod, Nat.mul_mod (a ^ n % Q256) a, Nat.mod_mod]

/-- One round of the power. -/
def estep (a s : Nat) (p : PB) : Nat := if p.val.2 = 1 then (s * s % Q256) * a % Q256 else s * s % Q256
theorem estep_lt (a s : Nat) (p : PB) : estep a s p < Q256 := by unfold estep; split <;> exact Nat.mod_lt _ Q256_pos

theorem efold_lt (a : Nat) : ∀ (l : List PB) (s : Nat), s < Q256 → l.foldl (estep a) s < Q256
  | [], _, h => h
  | p :: l, s, _ => efold_lt a l _ (estep_lt a s p)

theorem efold_down (a x : Nat) : ∀ N, N ≤ 512 → (down x N).foldl (estep a) (powW a (x / 2 ^ N)) = powW a x
  | 0, _ => by simp [down]
  | N + 1, h => by
    rw [down, List.foldl_cons]
    have e : estep a (powW a (x / 2 ^ (N + 1))) ⟨(N % 512, bitOf x N), Nat.mod_lt _ (by decide), bitOf_le _ _⟩ = powW a (x / 2 ^ N) := by
      unfold estep
      rw [div_two x N, ← powW_two]
      have ht := bitOf_le x N
      by_cases h1 : bitOf x N = 1
      · rw [if_pos h1, h1, powW_succ]
      · rw [if_neg h1, show bitOf x N = 0 by omega]; rfl
    rw [e]
    exact efold_down a x N (by omega)

theorem efold_all {a x N : Nat} (hN : N ≤ 512) (hx : x < 2 ^ N) : (down x N).foldl (estep a) 1 = powW a x := by
  have h := efold_down a x N hN
  rw [Nat.div_eq_of_lt hx, powW_zero] at h
  exact h

/-- The box of the power. -/
def expC (a Bo : Nat) (pre : List PB) (W : World) : Prop := rowW 24 W Bo (pre.foldl (estep a) 1)

attribute [local irreducible] lb powW

set_option maxRecDepth 100000 in
set_option maxHeartbeats 4000000 in
theorem Exp_any (a x : Nat) (ha : a < Q256) (hx : x < Q256) (w : World) :
    Calls Try.prog 39 #[W4 a, W4 x] w fun e w' => e = .returned (W4 (powW a x)) ∧ Below w.heap.size w w' := by
  have c0 : ∀ W, Calls Try.prog 35 #[.int .u64 1] W fun e w' => e = .returned (W4 1) ∧ Below W.heap.size W w' := fun W => Of_any 1 (by decide) W
  obtain ⟨n, hn⟩ : ∃ n, n = powW a x := ⟨_, rfl⟩
  rw [← hn]
  have HN := Lib.hid hn
  clear hn
  refine calls_FW (n := 9) ?_
  refine callsIn_of_wp_marks Try.func39 rfl trivial ?_ rfl
  simp only [Try.ntmps39, List.size_toArray, List.length_cons, List.length_nil, Nat.reduceAdd, Nat.reduceSub, Array.replicate_succ, Array.replicate_zero, List.push_toArray, List.append_toArray, List.nil_append, List.cons_append]
  gi_wp2_with (first | (gi_at_call 35; refine (callsIn_FW (c0 _)).mono ?_; rintro e w1 ⟨rfl, hb_w1⟩; have hc_w1 := (bcell hb_w1).1; have hf_w1 := (bcell hb_w1).2; have hz_w1 : _ ≤ w1.heap.size := hb_w1.size; (try simp only [World.size_alloc, World.heap_drewN, World.size_setCell, heap_drew] at hc_w1 hf_w1 hz_w1); have hz_w1_w_0 : w.heap.size < w1.heap.size := (by omega); have hz_w1_w_1 : w.heap.size + 1 < w1.heap.size := (by omega); have hz_w1_w_2 : w.heap.size + 1 + 1 < w1.heap.size := (by omega)) | (gi_at_call 71; refine (callsIn_FW (ones_any _ _ _ _ rfl _)).mono ?_; rintro e w' ⟨rfl, rfl⟩))
  refine range_fr (n := 9) (by omega) (gf := 79) (lb := #[.pointer (some ⟨w1.heap.size + 1, 0, none⟩)]) rfl (enters_of Try.func79 (by kernel_rfl) rfl)
    (ones_stops (9 - 1) 4 (by omega) (by omega) (by omega) (w1.heap.size + 1) (w.heap.size + 1) x (by rw [← Q256_pow]; exact hx) _ ?p1 ?p2 ?p3 ?p4) (fun _ => rfl) (fun k => k = w1.heap.size) ?p5 ?p6 ?p7 ?p8 ?p9
    (expC a w1.heap.size) ?p10 ?p11 (fun p a => ((a.put (some 11) (.int .i64 (p.val.1 : Nat))).put (some 12) (.int .u64 (p.val.2 : Nat))).put (some 7) (.int .u64 (p.val.2 : Nat))) ?assign ?body ?done
  case p1 => simp only [World.size_alloc]; omega
  case p2 => simp only [World.size_alloc]; omega
  case p3 => exact cell_of_row _ _ 0 _ _ _ (heap_new (by simp only [World.size_alloc]))
  case p4 =>
    intro j hj
    exact (((((rowW.new (n := x) (t := 24) (W := w.alloc (.cells #[.int .u64 (lb a 0 : Nat), .int .u64 (lb a 1 : Nat), .int .u64 (lb a 2 : Nat), .int .u64 (lb a 3 : Nat)] 24)) (by simp)).alloc _).below hb_w1 (by simp)).alloc _).alloc _).cellAt hj
  case p5 => intro k hk; simp only [World.size_alloc]; omega
  case p6 => omega
  case p7 => omega
  case p8 => simp only [World.size_alloc]; omega
  case p9 => simp only [World.size_alloc]; omega
  case p10 =>
    intro pre X Y h1 hs
    exact (hs _ rfl).trans h1
  case p11 => exact (rowW.new rfl).alloc _
  case assign =>
    intro l p X K hK
    gi_wp2
    exact hK
  case body =>
    intro l pre p X hm hfr hlen
    have hs := efold_lt a pre 1 (by decide)
    have hz := hfr.size
    simp only [World.size_alloc] at hz
    have ra : rowW 24 X w.heap.size a :=
      (hfr.block _ (by simp only [World.size_alloc]; omega) (by omega)).trans (((((((rowW.new rfl).alloc _).alloc _).below hb_w1 (by simp; omega)).alloc _).alloc _))
    clear hfr
    have hstep : (pre ++ [p]).foldl (estep a) 1 = estep a (pre.foldl (estep a) 1) p := by rw [List.foldl_append]; rfl
    unfold expC at hm ⊢
    rw [hstep]
    clear hstep
    generalize pre.foldl (estep a) 1 = s at *
    obtain ⟨⟨i, t⟩, hi, ht⟩ := p
    simp only at hi ht ⊢
    obtain ⟨s0, s1, s2, s3, sf⟩ := hm.cells
    obtain ⟨a0, a1, a2, a3, af⟩ := ra.cells
    have hz0 : w.heap.size < X.heap.size := by omega
    have hz1 : w1.heap.size < X.heap.size := by omega
    have c1 := fun W => Mul_any s s hs hs W
    have hd : s * s % Q256 < Q256 := Nat.mod_lt _ Q256_pos
    have c2 := fun W => Mul_any (s * s % Q256) a hd ha W
    have ht01 : t = 0 ∨ t = 1 := by omega
    rcases ht01 with rfl | rfl
    · have he : estep a s ⟨(i, 0), hi, ht⟩ = s * s % Q256 := by unfold estep; simp
      rw [he]
      generalize s * s % Q256 = d at *
      clear he
      simp only [Act.put, List.setIfInBounds_toArray, List.set_cons_succ, List.set_cons_zero]
      gi_wp2_with (gi_at_call 33; with_reducible refine (callsIn_FW (c1 _)).mono ?_; rintro e wa ⟨rfl, hb_wa⟩; have hc_wa := (bcell hb_wa).1; have hf_wa := (bcell hb_wa).2; have hz_wa : _ ≤ wa.heap.size := hb_wa.size; (try simp only [World.size_alloc, World.heap_drewN, World.size_setCell, heap_drew] at hc_wa hf_wa hz_wa); have hz_wa_w_0 : w.heap.size < wa.heap.size := (by omega); have hz_wa_w1_0 : w1.heap.size < wa.heap.size := (by omega))
      refine ⟨?_, ?_⟩
      · skip
        (repeat (with_reducible first | exact Fr.refl _ _ | refine Fr.drewN ?_ _ | refine Fr.drew ?_ | refine Fr.setCell ?_ (by left; rfl) _ | refine Fr.alloc ?_ _ | refine Fr.below (W' := wb) ?_ hb_wb | refine Fr.below (W' := wa) ?_ hb_wa))
      · skip
        (repeat (with_reducible first | exact hm | exact hm.has | refine rowW.put _ ?_ | refine hasRow.put _ ?_ | refine rowW.set ?_ (by first | exact Nat.ne_of_lt (by assumption) | exact Nat.ne_of_gt (by assumption) | omega) | refine rowW.alloc ?_ _ | refine rowW.below (W' := wb) ?_ hb_wb (by first | assumption | (simp only [World.size_alloc, World.size_setCell, World.heap_drewN, heap_drew]; first | assumption | exact Nat.lt_succ_of_lt (by assumption) | omega)) | refine rowW.below (W' := wa) ?_ hb_wa (by first | assumption | (simp only [World.size_alloc, World.size_setCell, World.heap_drewN, heap_drew]; first | assumption | exact Nat.lt_succ_of_lt (by assumption) | omega)) | refine hasRow.set ?_ (by first | exact Nat.ne_of_lt (by assumption) | exact Nat.ne_of_gt (by assumption) | omega) | refine hasRow.alloc ?_ _ | refine hasRow.below (W' := wb) ?_ hb_wb (by first | assumption | (simp only [World.size_alloc, World.size_setCell, World.heap_drewN, heap_drew]; first | assumption | exact Nat.lt_succ_of_lt (by assumption) | omega)) | refine hasRow.below (W' := wa) ?_ hb_wa (by first | assumption | (simp only [World.size_alloc, World.size_setCell, World.heap_drewN, heap_drew]; first | assumption | exact Nat.lt_succ_of_lt (by assumption) | omega))))
    · have he : estep a s ⟨(i, 1), hi, ht⟩ = (s * s % Q256) * a % Q256 := by unfold estep; simp
      rw [he]
      generalize hdd : s * s % Q256 = d at *
      generalize d * a % Q256 = u at *
      clear he
      simp only [Act.put, List.setIfInBounds_toArray, List.set_cons_succ, List.set_cons_zero]
      gi_wp2_with (first | (gi_at_call 33; with_reducible refine (callsIn_FW (c1 _)).mono ?_; rintro e wa ⟨rfl, hb_wa⟩; have hc_wa := (bcell hb_wa).1; have hf_wa := (bcell hb_wa).2; have hz_wa : _ ≤ wa.heap.size := hb_wa.size; (try simp only [World.size_alloc, World.heap_drewN, World.size_setCell, heap_drew] at hc_wa hf_wa hz_wa); have hz_wa_w_0 : w.heap.size < wa.heap.size := (by omega); have hz_wa_w1_0 : w1.heap.size < wa.heap.size := (by omega)) | (gi_at_call 33; with_reducible refine (callsIn_FW (c2 _)).mono ?_; rintro e wb ⟨rfl, hb_wb⟩; have hc_wb := (bcell hb_wb).1; have hf_wb := (bcell hb_wb).2; have hz_wb : _ ≤ wb.heap.size := hb_wb.size; (try simp only [World.size_alloc, World.heap_drewN, World.size_setCell, heap_drew] at hc_wb hf_wb hz_wb); have hz_wb_w_0 : w.heap.size < wb.heap.size := (by omega); have hz_wb_w1_0 : w1.heap.size < wb.heap.size := (by omega)))
      refine ⟨?_, ?_⟩
      · skip
        (repeat (with_reducible first | exact Fr.refl _ _ | refine Fr.drewN ?_ _ | refine Fr.drew ?_ | refine Fr.setCell ?_ (by left; rfl) _ | refine Fr.alloc ?_ _ | refine Fr.below (W' := wb) ?_ hb_wb | refine Fr.below (W' := wa) ?_ hb_wa))
      · skip
        (repeat (with_reducible first | exact hm | exact hm.has | refine rowW.put _ ?_ | refine hasRow.put _ ?_ | refine rowW.set ?_ (by first | exact Nat.ne_of_lt (by assumption) | exact Nat.ne_of_gt (by assumption) | omega) | refine rowW.alloc ?_ _ | refine rowW.below (W' := wb) ?_ hb_wb (by first | assumption | (simp only [World.size_alloc, World.size_setCell, World.heap_drewN, heap_drew]; first | assumption | exact Nat.lt_succ_of_lt (by assumption) | omega)) | refine rowW.below (W' := wa) ?_ hb_wa (by first | assumption | (simp only [World.size_alloc, World.size_setCell, World.heap_drewN, heap_drew]; first | assumption | exact Nat.lt_succ_of_lt (by assumption) | omega)) | refine hasRow.set ?_ (by first | exact Nat.ne_of_lt (by assumption) | exact Nat.ne_of_gt (by assumption) | omega) | refine hasRow.alloc ?_ _ | refine hasRow.below (W' := wb) ?_ hb_wb (by first | assumption | (simp only [World.size_alloc, World.size_setCell, World.heap_drewN, heap_drew]; first | assumption | exact Nat.lt_succ_of_lt (by assumption) | omega)) | refine hasRow.below (W' := wa) ?_ hb_wa (by first | assumption | (simp only [World.size_alloc, World.size_setCell, World.heap_drewN, heap_drew]; first | assumption | exact Nat.lt_succ_of_lt (by assumption) | omega))))
  case done =>
    rintro D ys X ⟨N, hN, hxN, rfl⟩ hm hfr hD hlt
    unfold expC at hm
    rw [efold_all (by omega) hxN, ← HN.out] at hm
    have hz := hfr.size
    simp only [World.size_alloc] at hz hlt
    have hres : rowW 24 X (w.heap.size + 1 + 1) 0 :=
      (hfr.block _ (by simp only [World.size_alloc]; omega) (by omega)).trans ((((rowW.new0 (by simp)).below hb_w1 (by simp)).alloc _).alloc _)
    have hbel : Below w.heap.size w X := by
      refine Below.trans ?_ (hfr.toBelow (n := w.heap.size) (by simp only [World.size_alloc]; omega) (by intro k hk; omega))
      repeat (with_reducible first | exact Below.refl _ _ | assumption | refine below_drewN ?_ _ | refine Below.drew ?_ | refine Below.setCell ?_ (by first | omega | (simp; done) | (simp; omega)) _ | refine Below.alloc ?_ (by first | omega | (simp; done) | (simp; omega)) _ | refine Below.trans ?_ (Below.mono (by assumption) (by first | omega | (simp; done) | (simp; omega))))
    clear hfr hxN
    obtain ⟨m0, m1, m2, m3, mf⟩ := hm.cells
    obtain ⟨z0, z1, z2, z3, zf⟩ := hres.cells
    clear hm hres
    gi_wp2
    refine leave_marks (D := D) (v := W4 n) ?_ rfl ?_
    · rw [heap_set_ne, heap_set_ne, heap_set_ne, heap_set_ne]
      · exact hD
      all_goals omega
    · intro W' hb5
      have hc5 := (bcell hb5).1
      have d2 : w.heap.size + 1 + 1 < D := by omega
      refine ⟨by simp only [results, Try.results39]; go_simp, rfl, ?_⟩
      refine Below.trans ?_ (hb5.mono (by omega))
      repeat refine Below.setCell ?_ (by simp only; omega) _
      exact hbel
end Go.Proofs.Ytmegpggpndjjcaa
