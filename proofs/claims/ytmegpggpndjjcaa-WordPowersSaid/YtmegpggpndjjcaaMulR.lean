/-
  The contract of the document's Mul. Conditions: none.
-/
import Derived.Test.YtmegpggpndjjcaaR2
namespace Go.Proofs.Ytmegpggpndjjcaa
open Go.RowKit
attribute [local go_sem] leftBy
set_option linter.unusedSimpArgs false
set_option linter.unusedVariables false


/-- A product with the highest bits, from bit j on. -/
def mulTop (a b j : Nat) : Nat := a * (b / 2 ^ j) % Q256

theorem mulTop_lt (a b j : Nat) : mulTop a b j < Q256 := Nat.mod_lt _ Q256_pos
theorem mulTop_top {a b : Nat} (hb : b < Q256) : mulTop a b 256 = 0 := by
  unfold mulTop
  rw [Nat.div_eq_of_lt (by rw [← Q256_pow]; exact hb)]
  simp
theorem mulTop_zero (a b : Nat) : mulTop a b 0 = a * b % Q256 := by unfold mulTop; simp
theorem mulTop_step (a b j : Nat) : mulTop a b j = ((mulTop a b (j + 1) + mulTop a b (j + 1)) % Q256 + a * bitOf b j) % Q256 := by
  unfold mulTop
  have h := Nat.div_add_mod (b / 2 ^ j) 2
  rw [Nat.div_div_eq_div_mul, ← Nat.pow_succ] at h
  have hb : b / 2 ^ j % 2 = bitOf b j := rfl
  rw [hb] at h
  rw [← h, Nat.mul_add]
  generalize b / 2 ^ (j + 1) = y
  generalize bitOf b j = t
  have e : a * (2 * y) = a * y + a * y := by grind
  rw [e]
  generalize a * y = p
  generalize a * t = q
  unfold Q256
  omega

attribute [local irreducible] lb bitsOf bitOf bitA mulTop

set_option maxRecDepth 100000 in
set_option maxHeartbeats 4000000 in
theorem ref_Mul (a b : Nat) (ha : a < Q256) (hb : b < Q256) (w : World) :
    Calls Try.prog 34 #[W4 a, W4 b] w fun e w' => e = .returned (W4 (a * b % Q256)) ∧ Below w.heap.size w w' := by
  have hz := zeroA
  obtain ⟨n, hn⟩ : ∃ n, n = a * b % Q256 := ⟨_, rfl⟩
  rw [← hn]
  have HN := Lib.hid hn
  clear hn
  go_enter Try.func34, Try.ntmps34
  go_wp2_with (go_at_call 68; refine (ref_Bits b hb _).mono ?_; rintro e w1 ⟨rfl, hb_w1⟩; have hc_w1 := (bcell hb_w1).1; have hf_w1 := (bcell hb_w1).2; have hz_w1 : _ ≤ w1.heap.size := hb_w1.size; (try simp only [World.size_alloc, World.heap_drewN, World.size_setCell, heap_drew] at hc_w1 hf_w1 hz_w1); have hz_w1_w_0 : w.heap.size < w1.heap.size := (by omega); have hz_w1_w_1 : w.heap.size + 1 < w1.heap.size := (by omega); have hz_w1_w_2 : w.heap.size + 1 + 1 < w1.heap.size := (by omega); have hz_w1_w_3 : w.heap.size + 1 + 1 + 1 < w1.heap.size := (by omega); have hbz := bitA_size (bitsOf b); have hst := (storeA' (bitsOf b) (rowA.new (W := w1) (f := fun _ => false) rfl)).trans (congrArg _ (World.setRow_alloc_new w1 (bitA fun _ => false) (bitA (bitsOf b)) 56)))
  clear hbz hst
  go_loopw [7] (fun i wr => ∃ j : Nat, j ≤ 256 ∧ i = .int .i64 ((j : Int) - 1) ∧ rowA wr w1.heap.size (bitsOf b) ∧ rowW 24 wr (w.heap.size + 1 + 1 + 1) (mulTop a b j) ∧ rowW 24 wr w.heap.size a ∧ rowW 24 wr (w.heap.size + 1 + 1) 0 ∧ Below w.heap.size w wr)
    (fun i _ => (intOf i + 1).toNat)
  case atStart =>
    refine ⟨256, by omega, by go_num, rowA.new rfl, ?_, ?_, ?_, ?_⟩
    · rw [mulTop_top hb]
      exact ((rowW.new0 (by simp)).below hb_w1 (by simp)).alloc _
    · exact (((((rowW.new rfl).alloc _).alloc _).alloc _).below hb_w1 (by simp; omega)).alloc _
    · exact (((rowW.new0 (by simp)).alloc _).below hb_w1 (by simp)).alloc _
    · skip
      repeat (with_reducible first | exact Below.refl _ _ | assumption | refine below_drewN ?_ _ | refine Below.drew ?_ | refine Below.setCell ?_ (by first | omega | (simp; done) | (simp; omega)) _ | refine Below.alloc ?_ (by first | omega | (simp; done) | (simp; omega)) _ | refine Below.trans ?_ (Below.mono (by assumption) (by first | omega | (simp; done) | (simp; omega))))
  case round =>
    obtain ⟨j, hj, rfl, hbits, hm, ra, hres, hbel⟩ := hrel
    have hsz := hbits.lt
    obtain ⟨m0, m1, m2, m3, mf⟩ := hm.cells
    obtain ⟨a0, a1, a2, a3, af⟩ := ra.cells
    have hmlt := mulTop_lt a b j
    cases j with
    | zero =>
      rw [mulTop_zero, ← HN.out] at m0 m1 m2 m3
      obtain ⟨z0, z1, z2, z3, zf⟩ := hres.cells
      go_wp2
      refine bodyPost_ret (by simp only [results, Try.results34]; go_simp) rfl ⟨rfl, ?_⟩
      repeat (with_reducible first | exact Below.refl _ _ | assumption | refine below_drewN ?_ _ | refine Below.drew ?_ | refine Below.setCell ?_ (by first | omega | (simp; done) | (simp; omega)) _ | refine Below.alloc ?_ (by first | omega | (simp; done) | (simp; omega)) _ | refine Below.trans ?_ (Below.mono (by assumption) (by first | omega | (simp; done) | (simp; omega))))
    | succ j =>
      have hstep := mulTop_step a b j
      have hco := hbits.cellAt (j := j) (by omega)
      have e1 : ((j + 1 : Nat) : Int) - 1 = (j : Int) := by omega
      rw [e1]
      have hs0 : w.heap.size < wr.heap.size := by omega
      have hs1 : w.heap.size + 1 < wr.heap.size := by omega
      have hs2 : w.heap.size + 1 + 1 < wr.heap.size := by omega
      have hs3 : w.heap.size + 1 + 1 + 1 < wr.heap.size := by omega
      generalize mulTop a b (j + 1) = m at m0 m1 m2 m3 hmlt hstep hm
      have c1 := fun W => ref_Add m m hmlt hmlt W
      have hd : (m + m) % Q256 < Q256 := Nat.mod_lt _ Q256_pos
      have c2 := fun W => ref_Add ((m + m) % Q256) a hd ha W
      have hbv : bitsOf b j = (bitOf b j == 1) := by unfold bitsOf; rfl
      have ht := bitOf_le b j
      generalize (m + m) % Q256 = d at *
      have ht01 : bitOf b j = 0 ∨ bitOf b j = 1 := by omega
      rcases ht01 with ht0 | ht0
      · rw [ht0, Nat.mul_zero, Nat.add_zero, Nat.mod_eq_of_lt hd] at hstep
        rw [hbv, ht0] at hco
        go_wp2_with (go_at_call 30; with_reducible refine (c1 _).mono ?_; rintro e wa ⟨rfl, hb_wa⟩; have hc_wa := (bcell hb_wa).1; have hf_wa := (bcell hb_wa).2; have hz_wa : _ ≤ wa.heap.size := hb_wa.size; (try simp only [World.size_alloc, World.heap_drewN, World.size_setCell, heap_drew] at hc_wa hf_wa hz_wa); have hz_wa_w_0 : w.heap.size < wa.heap.size := (by omega); have hz_wa_w_1 : w.heap.size + 1 < wa.heap.size := (by omega); have hz_wa_w_2 : w.heap.size + 1 + 1 < wa.heap.size := (by omega); have hz_wa_w_3 : w.heap.size + 1 + 1 + 1 < wa.heap.size := (by omega))
        go_roundw
        case rel =>
          refine ⟨j, by omega, rfl, ?_, ?_, ?_, ?_, ?_⟩
          · skip
            (repeat (with_reducible first | exact hm | exact ra | exact hres | exact hbits | exact hm.has | refine rowW.put _ ?_ | refine hasRow.put _ ?_ | refine rowW.set ?_ (by first | exact Nat.ne_of_lt (by assumption) | exact Nat.ne_of_gt (by assumption) | omega) | refine rowW.alloc ?_ _ | refine rowW.below (W' := wb) ?_ hb_wb (by first | assumption | (simp only [World.size_alloc, World.size_setCell, World.heap_drewN, heap_drew]; first | assumption | exact Nat.lt_succ_of_lt (by assumption) | omega)) | refine rowW.below (W' := wa) ?_ hb_wa (by first | assumption | (simp only [World.size_alloc, World.size_setCell, World.heap_drewN, heap_drew]; first | assumption | exact Nat.lt_succ_of_lt (by assumption) | omega)) | refine hasRow.set ?_ (by first | exact Nat.ne_of_lt (by assumption) | exact Nat.ne_of_gt (by assumption) | omega) | refine hasRow.alloc ?_ _ | refine hasRow.below (W' := wb) ?_ hb_wb (by first | assumption | (simp only [World.size_alloc, World.size_setCell, World.heap_drewN, heap_drew]; first | assumption | exact Nat.lt_succ_of_lt (by assumption) | omega)) | refine hasRow.below (W' := wa) ?_ hb_wa (by first | assumption | (simp only [World.size_alloc, World.size_setCell, World.heap_drewN, heap_drew]; first | assumption | exact Nat.lt_succ_of_lt (by assumption) | omega)) | refine rowA.set ?_ (by first | exact Nat.ne_of_lt (by assumption) | exact Nat.ne_of_gt (by assumption) | omega) | refine rowA.alloc ?_ _ | refine rowA.below (W' := wb) ?_ hb_wb (by first | assumption | (simp only [World.size_alloc, World.size_setCell, World.heap_drewN, heap_drew]; first | assumption | exact Nat.lt_succ_of_lt (by assumption) | omega)) | refine rowA.below (W' := wa) ?_ hb_wa (by first | assumption | (simp only [World.size_alloc, World.size_setCell, World.heap_drewN, heap_drew]; first | assumption | exact Nat.lt_succ_of_lt (by assumption) | omega))))
          · rw [hstep]
            (repeat (with_reducible first | exact hm | exact ra | exact hres | exact hbits | exact hm.has | refine rowW.put _ ?_ | refine hasRow.put _ ?_ | refine rowW.set ?_ (by first | exact Nat.ne_of_lt (by assumption) | exact Nat.ne_of_gt (by assumption) | omega) | refine rowW.alloc ?_ _ | refine rowW.below (W' := wb) ?_ hb_wb (by first | assumption | (simp only [World.size_alloc, World.size_setCell, World.heap_drewN, heap_drew]; first | assumption | exact Nat.lt_succ_of_lt (by assumption) | omega)) | refine rowW.below (W' := wa) ?_ hb_wa (by first | assumption | (simp only [World.size_alloc, World.size_setCell, World.heap_drewN, heap_drew]; first | assumption | exact Nat.lt_succ_of_lt (by assumption) | omega)) | refine hasRow.set ?_ (by first | exact Nat.ne_of_lt (by assumption) | exact Nat.ne_of_gt (by assumption) | omega) | refine hasRow.alloc ?_ _ | refine hasRow.below (W' := wb) ?_ hb_wb (by first | assumption | (simp only [World.size_alloc, World.size_setCell, World.heap_drewN, heap_drew]; first | assumption | exact Nat.lt_succ_of_lt (by assumption) | omega)) | refine hasRow.below (W' := wa) ?_ hb_wa (by first | assumption | (simp only [World.size_alloc, World.size_setCell, World.heap_drewN, heap_drew]; first | assumption | exact Nat.lt_succ_of_lt (by assumption) | omega)) | refine rowA.set ?_ (by first | exact Nat.ne_of_lt (by assumption) | exact Nat.ne_of_gt (by assumption) | omega) | refine rowA.alloc ?_ _ | refine rowA.below (W' := wb) ?_ hb_wb (by first | assumption | (simp only [World.size_alloc, World.size_setCell, World.heap_drewN, heap_drew]; first | assumption | exact Nat.lt_succ_of_lt (by assumption) | omega)) | refine rowA.below (W' := wa) ?_ hb_wa (by first | assumption | (simp only [World.size_alloc, World.size_setCell, World.heap_drewN, heap_drew]; first | assumption | exact Nat.lt_succ_of_lt (by assumption) | omega))))
          · skip
            (repeat (with_reducible first | exact hm | exact ra | exact hres | exact hbits | exact hm.has | refine rowW.put _ ?_ | refine hasRow.put _ ?_ | refine rowW.set ?_ (by first | exact Nat.ne_of_lt (by assumption) | exact Nat.ne_of_gt (by assumption) | omega) | refine rowW.alloc ?_ _ | refine rowW.below (W' := wb) ?_ hb_wb (by first | assumption | (simp only [World.size_alloc, World.size_setCell, World.heap_drewN, heap_drew]; first | assumption | exact Nat.lt_succ_of_lt (by assumption) | omega)) | refine rowW.below (W' := wa) ?_ hb_wa (by first | assumption | (simp only [World.size_alloc, World.size_setCell, World.heap_drewN, heap_drew]; first | assumption | exact Nat.lt_succ_of_lt (by assumption) | omega)) | refine hasRow.set ?_ (by first | exact Nat.ne_of_lt (by assumption) | exact Nat.ne_of_gt (by assumption) | omega) | refine hasRow.alloc ?_ _ | refine hasRow.below (W' := wb) ?_ hb_wb (by first | assumption | (simp only [World.size_alloc, World.size_setCell, World.heap_drewN, heap_drew]; first | assumption | exact Nat.lt_succ_of_lt (by assumption) | omega)) | refine hasRow.below (W' := wa) ?_ hb_wa (by first | assumption | (simp only [World.size_alloc, World.size_setCell, World.heap_drewN, heap_drew]; first | assumption | exact Nat.lt_succ_of_lt (by assumption) | omega)) | refine rowA.set ?_ (by first | exact Nat.ne_of_lt (by assumption) | exact Nat.ne_of_gt (by assumption) | omega) | refine rowA.alloc ?_ _ | refine rowA.below (W' := wb) ?_ hb_wb (by first | assumption | (simp only [World.size_alloc, World.size_setCell, World.heap_drewN, heap_drew]; first | assumption | exact Nat.lt_succ_of_lt (by assumption) | omega)) | refine rowA.below (W' := wa) ?_ hb_wa (by first | assumption | (simp only [World.size_alloc, World.size_setCell, World.heap_drewN, heap_drew]; first | assumption | exact Nat.lt_succ_of_lt (by assumption) | omega))))
          · skip
            (repeat (with_reducible first | exact hm | exact ra | exact hres | exact hbits | exact hm.has | refine rowW.put _ ?_ | refine hasRow.put _ ?_ | refine rowW.set ?_ (by first | exact Nat.ne_of_lt (by assumption) | exact Nat.ne_of_gt (by assumption) | omega) | refine rowW.alloc ?_ _ | refine rowW.below (W' := wb) ?_ hb_wb (by first | assumption | (simp only [World.size_alloc, World.size_setCell, World.heap_drewN, heap_drew]; first | assumption | exact Nat.lt_succ_of_lt (by assumption) | omega)) | refine rowW.below (W' := wa) ?_ hb_wa (by first | assumption | (simp only [World.size_alloc, World.size_setCell, World.heap_drewN, heap_drew]; first | assumption | exact Nat.lt_succ_of_lt (by assumption) | omega)) | refine hasRow.set ?_ (by first | exact Nat.ne_of_lt (by assumption) | exact Nat.ne_of_gt (by assumption) | omega) | refine hasRow.alloc ?_ _ | refine hasRow.below (W' := wb) ?_ hb_wb (by first | assumption | (simp only [World.size_alloc, World.size_setCell, World.heap_drewN, heap_drew]; first | assumption | exact Nat.lt_succ_of_lt (by assumption) | omega)) | refine hasRow.below (W' := wa) ?_ hb_wa (by first | assumption | (simp only [World.size_alloc, World.size_setCell, World.heap_drewN, heap_drew]; first | assumption | exact Nat.lt_succ_of_lt (by assumption) | omega)) | refine rowA.set ?_ (by first | exact Nat.ne_of_lt (by assumption) | exact Nat.ne_of_gt (by assumption) | omega) | refine rowA.alloc ?_ _ | refine rowA.below (W' := wb) ?_ hb_wb (by first | assumption | (simp only [World.size_alloc, World.size_setCell, World.heap_drewN, heap_drew]; first | assumption | exact Nat.lt_succ_of_lt (by assumption) | omega)) | refine rowA.below (W' := wa) ?_ hb_wa (by first | assumption | (simp only [World.size_alloc, World.size_setCell, World.heap_drewN, heap_drew]; first | assumption | exact Nat.lt_succ_of_lt (by assumption) | omega))))
          · skip
            repeat (with_reducible first | exact Below.refl _ _ | assumption | refine below_drewN ?_ _ | refine Below.drew ?_ | refine Below.setCell ?_ (by first | omega | (simp; done) | (simp; omega)) _ | refine Below.alloc ?_ (by first | omega | (simp; done) | (simp; omega)) _ | refine Below.trans ?_ (Below.mono (by assumption) (by first | omega | (simp; done) | (simp; omega))))
        case measure => simp [intOf]
      · rw [ht0, Nat.mul_one] at hstep
        rw [hbv, ht0] at hco
        go_wp2_with (first | (go_at_call 30; with_reducible refine (c1 _).mono ?_; rintro e wa ⟨rfl, hb_wa⟩; have hc_wa := (bcell hb_wa).1; have hf_wa := (bcell hb_wa).2; have hz_wa : _ ≤ wa.heap.size := hb_wa.size; (try simp only [World.size_alloc, World.heap_drewN, World.size_setCell, heap_drew] at hc_wa hf_wa hz_wa); have hz_wa_w_0 : w.heap.size < wa.heap.size := (by omega); have hz_wa_w_1 : w.heap.size + 1 < wa.heap.size := (by omega); have hz_wa_w_2 : w.heap.size + 1 + 1 < wa.heap.size := (by omega); have hz_wa_w_3 : w.heap.size + 1 + 1 + 1 < wa.heap.size := (by omega); have hz1 : w1.heap.size < wa.heap.size := (by omega)) | (go_at_call 30; with_reducible refine (c2 _).mono ?_; rintro e wb ⟨rfl, hb_wb⟩; have hc_wb := (bcell hb_wb).1; have hf_wb := (bcell hb_wb).2; have hz_wb : _ ≤ wb.heap.size := hb_wb.size; (try simp only [World.size_alloc, World.heap_drewN, World.size_setCell, heap_drew] at hc_wb hf_wb hz_wb); have hz_wb_w_0 : w.heap.size < wb.heap.size := (by omega); have hz_wb_w_1 : w.heap.size + 1 < wb.heap.size := (by omega); have hz_wb_w_2 : w.heap.size + 1 + 1 < wb.heap.size := (by omega); have hz_wb_w_3 : w.heap.size + 1 + 1 + 1 < wb.heap.size := (by omega)))
        go_roundw
        case rel =>
          refine ⟨j, by omega, rfl, ?_, ?_, ?_, ?_, ?_⟩
          · skip
            (repeat (with_reducible first | exact hm | exact ra | exact hres | exact hbits | exact hm.has | refine rowW.put _ ?_ | refine hasRow.put _ ?_ | refine rowW.set ?_ (by first | exact Nat.ne_of_lt (by assumption) | exact Nat.ne_of_gt (by assumption) | omega) | refine rowW.alloc ?_ _ | refine rowW.below (W' := wb) ?_ hb_wb (by first | assumption | (simp only [World.size_alloc, World.size_setCell, World.heap_drewN, heap_drew]; first | assumption | exact Nat.lt_succ_of_lt (by assumption) | omega)) | refine rowW.below (W' := wa) ?_ hb_wa (by first | assumption | (simp only [World.size_alloc, World.size_setCell, World.heap_drewN, heap_drew]; first | assumption | exact Nat.lt_succ_of_lt (by assumption) | omega)) | refine hasRow.set ?_ (by first | exact Nat.ne_of_lt (by assumption) | exact Nat.ne_of_gt (by assumption) | omega) | refine hasRow.alloc ?_ _ | refine hasRow.below (W' := wb) ?_ hb_wb (by first | assumption | (simp only [World.size_alloc, World.size_setCell, World.heap_drewN, heap_drew]; first | assumption | exact Nat.lt_succ_of_lt (by assumption) | omega)) | refine hasRow.below (W' := wa) ?_ hb_wa (by first | assumption | (simp only [World.size_alloc, World.size_setCell, World.heap_drewN, heap_drew]; first | assumption | exact Nat.lt_succ_of_lt (by assumption) | omega)) | refine rowA.set ?_ (by first | exact Nat.ne_of_lt (by assumption) | exact Nat.ne_of_gt (by assumption) | omega) | refine rowA.alloc ?_ _ | refine rowA.below (W' := wb) ?_ hb_wb (by first | assumption | (simp only [World.size_alloc, World.size_setCell, World.heap_drewN, heap_drew]; first | assumption | exact Nat.lt_succ_of_lt (by assumption) | omega)) | refine rowA.below (W' := wa) ?_ hb_wa (by first | assumption | (simp only [World.size_alloc, World.size_setCell, World.heap_drewN, heap_drew]; first | assumption | exact Nat.lt_succ_of_lt (by assumption) | omega))))
          · rw [hstep]
            (repeat (with_reducible first | exact hm | exact ra | exact hres | exact hbits | exact hm.has | refine rowW.put _ ?_ | refine hasRow.put _ ?_ | refine rowW.set ?_ (by first | exact Nat.ne_of_lt (by assumption) | exact Nat.ne_of_gt (by assumption) | omega) | refine rowW.alloc ?_ _ | refine rowW.below (W' := wb) ?_ hb_wb (by first | assumption | (simp only [World.size_alloc, World.size_setCell, World.heap_drewN, heap_drew]; first | assumption | exact Nat.lt_succ_of_lt (by assumption) | omega)) | refine rowW.below (W' := wa) ?_ hb_wa (by first | assumption | (simp only [World.size_alloc, World.size_setCell, World.heap_drewN, heap_drew]; first | assumption | exact Nat.lt_succ_of_lt (by assumption) | omega)) | refine hasRow.set ?_ (by first | exact Nat.ne_of_lt (by assumption) | exact Nat.ne_of_gt (by assumption) | omega) | refine hasRow.alloc ?_ _ | refine hasRow.below (W' := wb) ?_ hb_wb (by first | assumption | (simp only [World.size_alloc, World.size_setCell, World.heap_drewN, heap_drew]; first | assumption | exact Nat.lt_succ_of_lt (by assumption) | omega)) | refine hasRow.below (W' := wa) ?_ hb_wa (by first | assumption | (simp only [World.size_alloc, World.size_setCell, World.heap_drewN, heap_drew]; first | assumption | exact Nat.lt_succ_of_lt (by assumption) | omega)) | refine rowA.set ?_ (by first | exact Nat.ne_of_lt (by assumption) | exact Nat.ne_of_gt (by assumption) | omega) | refine rowA.alloc ?_ _ | refine rowA.below (W' := wb) ?_ hb_wb (by first | assumption | (simp only [World.size_alloc, World.size_setCell, World.heap_drewN, heap_drew]; first | assumption | exact Nat.lt_succ_of_lt (by assumption) | omega)) | refine rowA.below (W' := wa) ?_ hb_wa (by first | assumption | (simp only [World.size_alloc, World.size_setCell, World.heap_drewN, heap_drew]; first | assumption | exact Nat.lt_succ_of_lt (by assumption) | omega))))
          · skip
            (repeat (with_reducible first | exact hm | exact ra | exact hres | exact hbits | exact hm.has | refine rowW.put _ ?_ | refine hasRow.put _ ?_ | refine rowW.set ?_ (by first | exact Nat.ne_of_lt (by assumption) | exact Nat.ne_of_gt (by assumption) | omega) | refine rowW.alloc ?_ _ | refine rowW.below (W' := wb) ?_ hb_wb (by first | assumption | (simp only [World.size_alloc, World.size_setCell, World.heap_drewN, heap_drew]; first | assumption | exact Nat.lt_succ_of_lt (by assumption) | omega)) | refine rowW.below (W' := wa) ?_ hb_wa (by first | assumption | (simp only [World.size_alloc, World.size_setCell, World.heap_drewN, heap_drew]; first | assumption | exact Nat.lt_succ_of_lt (by assumption) | omega)) | refine hasRow.set ?_ (by first | exact Nat.ne_of_lt (by assumption) | exact Nat.ne_of_gt (by assumption) | omega) | refine hasRow.alloc ?_ _ | refine hasRow.below (W' := wb) ?_ hb_wb (by first | assumption | (simp only [World.size_alloc, World.size_setCell, World.heap_drewN, heap_drew]; first | assumption | exact Nat.lt_succ_of_lt (by assumption) | omega)) | refine hasRow.below (W' := wa) ?_ hb_wa (by first | assumption | (simp only [World.size_alloc, World.size_setCell, World.heap_drewN, heap_drew]; first | assumption | exact Nat.lt_succ_of_lt (by assumption) | omega)) | refine rowA.set ?_ (by first | exact Nat.ne_of_lt (by assumption) | exact Nat.ne_of_gt (by assumption) | omega) | refine rowA.alloc ?_ _ | refine rowA.below (W' := wb) ?_ hb_wb (by first | assumption | (simp only [World.size_alloc, World.size_setCell, World.heap_drewN, heap_drew]; first | assumption | exact Nat.lt_succ_of_lt (by assumption) | omega)) | refine rowA.below (W' := wa) ?_ hb_wa (by first | assumption | (simp only [World.size_alloc, World.size_setCell, World.heap_drewN, heap_drew]; first | assumption | exact Nat.lt_succ_of_lt (by assumption) | omega))))
          · skip
            (repeat (with_reducible first | exact hm | exact ra | exact hres | exact hbits | exact hm.has | refine rowW.put _ ?_ | refine hasRow.put _ ?_ | refine rowW.set ?_ (by first | exact Nat.ne_of_lt (by assumption) | exact Nat.ne_of_gt (by assumption) | omega) | refine rowW.alloc ?_ _ | refine rowW.below (W' := wb) ?_ hb_wb (by first | assumption | (simp only [World.size_alloc, World.size_setCell, World.heap_drewN, heap_drew]; first | assumption | exact Nat.lt_succ_of_lt (by assumption) | omega)) | refine rowW.below (W' := wa) ?_ hb_wa (by first | assumption | (simp only [World.size_alloc, World.size_setCell, World.heap_drewN, heap_drew]; first | assumption | exact Nat.lt_succ_of_lt (by assumption) | omega)) | refine hasRow.set ?_ (by first | exact Nat.ne_of_lt (by assumption) | exact Nat.ne_of_gt (by assumption) | omega) | refine hasRow.alloc ?_ _ | refine hasRow.below (W' := wb) ?_ hb_wb (by first | assumption | (simp only [World.size_alloc, World.size_setCell, World.heap_drewN, heap_drew]; first | assumption | exact Nat.lt_succ_of_lt (by assumption) | omega)) | refine hasRow.below (W' := wa) ?_ hb_wa (by first | assumption | (simp only [World.size_alloc, World.size_setCell, World.heap_drewN, heap_drew]; first | assumption | exact Nat.lt_succ_of_lt (by assumption) | omega)) | refine rowA.set ?_ (by first | exact Nat.ne_of_lt (by assumption) | exact Nat.ne_of_gt (by assumption) | omega) | refine rowA.alloc ?_ _ | refine rowA.below (W' := wb) ?_ hb_wb (by first | assumption | (simp only [World.size_alloc, World.size_setCell, World.heap_drewN, heap_drew]; first | assumption | exact Nat.lt_succ_of_lt (by assumption) | omega)) | refine rowA.below (W' := wa) ?_ hb_wa (by first | assumption | (simp only [World.size_alloc, World.size_setCell, World.heap_drewN, heap_drew]; first | assumption | exact Nat.lt_succ_of_lt (by assumption) | omega))))
          · skip
            repeat (with_reducible first | exact Below.refl _ _ | assumption | refine below_drewN ?_ _ | refine Below.drew ?_ | refine Below.setCell ?_ (by first | omega | (simp; done) | (simp; omega)) _ | refine Below.alloc ?_ (by first | omega | (simp; done) | (simp; omega)) _ | refine Below.trans ?_ (Below.mono (by assumption) (by first | omega | (simp; done) | (simp; omega))))
        case measure => simp [intOf]
end Go.Proofs.Ytmegpggpndjjcaa
