/-
  The contracts of memo.Slice, memo.Need and of shown. Conditions: none.
-/
import Derived.Test.YtbgeenkkdfbngaaMCost
import Derived.Test.YtbgeenkkdfbngaaMShelf
namespace Go.Proofs.Ytbgeenkkdfbngaa
open Go.RowKit
attribute [local go_sem] leftBy eqW guardW
set_option linter.unusedSimpArgs false
set_option linter.unusedVariables false


/-- A memory with bytes 0 behind it. -/
def zeros (k : Nat) : ByteArray := ⟨Array.replicate k 0⟩
theorem zeros_size (k : Nat) : (zeros k).size = k := by simp [zeros, ByteArray.size]
theorem repeat_zeros (k : Nat) : (⟨(Lib.repeatL (ByteArray.mk #[0]).data.toList k).toArray⟩ : ByteArray) = zeros k := by
  unfold zeros
  congr 1
  have h : ∀ k : Nat, Lib.repeatL [(0 : UInt8)] k = List.replicate k 0 := fun k => by
    induction k with
    | zero => rfl
    | succ k ih => first | (simp [Lib.repeatL, ih, List.replicate_succ]; done) | (simp [Lib.repeatL, ih, List.replicate_succ']; done)
  show (Lib.repeatL [(0 : UInt8)] k).toArray = _
  rw [h]
  simp

def needE (off n : Nat) : Nat := (off + n + 31) / 32 * 32
def needB (off n : Nat) : Bool := decide (n = 0 ∨ off + n ≤ 65536)
def needM (m : ByteArray) (off n : Nat) : ByteArray := if n ≠ 0 ∧ off + n ≤ 65536 ∧ m.size < needE off n then m ++ zeros (needE off n - m.size) else m
theorem needM_same {m : ByteArray} {off n : Nat} (h : ¬ (n ≠ 0 ∧ off + n ≤ 65536 ∧ m.size < needE off n)) : needM m off n = m := if_neg h
theorem needM_more {m : ByteArray} {off n : Nat} (h : n ≠ 0 ∧ off + n ≤ 65536 ∧ m.size < needE off n) : needM m off n = m ++ zeros (needE off n - m.size) := if_pos h
theorem needM_size {m : ByteArray} {off n : Nat} (h : n ≠ 0 ∧ off + n ≤ 65536 ∧ m.size < needE off n) : (needM m off n).size = needE off n := by
  rw [needM_more h, ByteArray.size_append, zeros_size]
  omega
theorem needE_le {off n : Nat} (h : off + n ≤ 65536) : needE off n ≤ 65536 := by unfold needE; omega

attribute [local irreducible] lb

set_option maxHeartbeats 4000000 in
/-- Slice, of what is there. -/
theorem Slice_in (m : ByteArray) (off n : Nat) (hm : m.size ≤ maxLen) (h : off + n ≤ m.size) (w : World) :
    Calls Try.prog 12 #[.string m, .int .u64 (off : Nat), .int .u64 (n : Nat)] w fun e w' => e = .returned (.tuple #[.string (m.extract off (off + n)), .int .i64 0]) ∧ w' = w := by
  have hmax : maxLen = 9223372036854775807 := rfl
  have hM : M64 = 18446744073709551616 := rfl
  have c1 := fun W => has_any m off n hm (by omega) (by omega) W
  rw [decide_eq_true h] at c1
  go_enter Try.func12, Try.ntmps12
  go_wp2_with (go_at_call 25; with_reducible refine (c1 _).mono ?_; rintro e _ ⟨rfl, rfl⟩)
  refine bodyPost_ret (by simp only [results, Try.results12]; go_simp; try rfl) rfl ⟨rfl, rfl⟩

set_option maxHeartbeats 4000000 in
/-- Slice, of what is not there. -/
theorem Slice_out (m : ByteArray) (off n : Nat) (hm : m.size ≤ maxLen) (ho : off < M64) (hn : n < M64) (h : ¬ off + n ≤ m.size) (w : World) :
    Calls Try.prog 12 #[.string m, .int .u64 (off : Nat), .int .u64 (n : Nat)] w fun e w' => e = .returned (.tuple #[.string ⟨#[]⟩, .int .i64 2]) ∧ w' = w := by
  have c1 := fun W => has_any m off n hm ho hn W
  rw [decide_eq_false h] at c1
  go_enter Try.func12, Try.ntmps12
  go_wp2_with (go_at_call 25; with_reducible refine (c1 _).mono ?_; rintro e _ ⟨rfl, rfl⟩)
  refine bodyPost_ret (by simp only [results, Try.results12]; go_simp; try rfl) rfl ⟨rfl, rfl⟩

/-- Slice. -/
def sliceS (m : ByteArray) (off n : Nat) : ByteArray := if off + n ≤ m.size then m.extract off (off + n) else ⟨#[]⟩
def sliceE (m : ByteArray) (off n : Nat) : Int := if off + n ≤ m.size then 0 else 2
theorem Slice_any (m : ByteArray) (off n : Nat) (hm : m.size ≤ maxLen) (ho : off < M64) (hn : n < M64) (w : World) :
    Calls Try.prog 12 #[.string m, .int .u64 (off : Nat), .int .u64 (n : Nat)] w fun e w' => e = .returned (.tuple #[.string (sliceS m off n), .int .i64 (sliceE m off n)]) ∧ w' = w := by
  unfold sliceS sliceE
  by_cases h : off + n ≤ m.size
  · rw [if_pos h, if_pos h]
    exact Slice_in m off n hm h w
  · rw [if_neg h, if_neg h]
    exact Slice_out m off n hm ho hn h w

theorem small_yes (n : Nat) (hn : n ≤ 65536) (w : World) :
    Calls Try.prog 23 #[W4 n] w fun e w' => e = .returned (.tuple #[.int .u64 (n : Nat), .bool true]) ∧ Below w.heap.size w w' := by
  have h := small_any n (Nat.lt_trans (show n < M64 by unfold M64; omega) (by decide +kernel)) w
  rw [(lb_small (show n < M64 by unfold M64; omega)).1, decide_eq_true hn] at h
  exact h
theorem small_no (n : Nat) (hl : n < Q256) (hn : ¬ n ≤ 65536) (w : World) :
    Calls Try.prog 23 #[W4 n] w fun e w' => e = .returned (.tuple #[.int .u64 (lb n 0 : Nat), .bool false]) ∧ Below w.heap.size w w' := by
  have h := small_any n hl w
  rw [decide_eq_false hn] at h
  exact h

theorem zeroW : W4 0 = .agg #[.int .u64 0, .int .u64 0, .int .u64 0, .int .u64 0] := W4_zero

theorem isZ {n : Nat} (hn : n < Q256) (h0 : n ≠ 0) : (((lb n 0 : Nat) : Int) == 0 && (((lb n 1 : Nat) : Int) == 0 && (((lb n 2 : Nat) : Int) == 0 && ((lb n 3 : Nat) : Int) == 0))) = false := by
  have hz := eqN hn (show (0 : Nat) < Q256 by decide +kernel)
  obtain ⟨e0, e1, e2, e3⟩ := lb_small (show 0 < M64 by decide +kernel)
  rw [decide_eq_false h0, e0, e1, e2, e3] at hz
  exact hz

set_option maxHeartbeats 4000000 in
theorem need_zero (m : ByteArray) (off : Nat) (w : World) :
    Calls Try.prog 10 #[.string m, W4 off, W4 0] w fun e w' => e = .returned (.tuple #[.string m, .int .u64 0, .bool true]) ∧ Below w.heap.size w w' := by
  rw [zeroW]
  go_enter Try.func10, Try.ntmps10
  go_wp2
  refine bodyPost_ret (by simp only [results, Try.results10]; go_simp; try rfl) rfl ⟨rfl, ?_⟩
  repeat (with_reducible first | exact Below.refl _ _ | assumption | refine below_drewN ?_ _ | refine Below.drew ?_ | refine Below.setCell ?_ (by first | omega | (simp; done) | (simp; omega)) _ | refine Below.alloc ?_ (by first | omega | (simp; done) | (simp; omega)) _ | refine Below.trans ?_ (Below.mono (by assumption) (by first | omega | (simp; done) | (simp; omega))))


set_option maxHeartbeats 4000000 in
theorem need_far (m : ByteArray) (off n k : Nat) (b : Bool) (hn : n < Q256) (h0 : n ≠ 0)
    (c1 : ∀ W, Calls Try.prog 23 #[W4 off] W fun e w' => e = .returned (.tuple #[.int .u64 (lb off 0 : Nat), .bool false]) ∧ Below W.heap.size W w')
    (c2 : ∀ W, Calls Try.prog 23 #[W4 n] W fun e w' => e = .returned (.tuple #[.int .u64 (k : Nat), .bool b]) ∧ Below W.heap.size W w') (w : World) :
    Calls Try.prog 10 #[.string m, W4 off, W4 n] w fun e w' => e = .returned (.tuple #[.string m, .int .u64 0, .bool false]) ∧ Below w.heap.size w w' := by
  have hz := isZ hn h0
  go_enter Try.func10, Try.ntmps10
  go_wp2_with (first | (go_at_call 23; with_reducible refine (c1 _).mono ?_; rintro e wa ⟨rfl, hb_wa⟩; have hc_wa := (bcell hb_wa).1; have hf_wa := (bcell hb_wa).2; have hz_wa : _ ≤ wa.heap.size := hb_wa.size; (try simp only [World.size_alloc, World.heap_drewN, World.size_setCell, heap_drew] at hc_wa hf_wa hz_wa); have hz_wa_w_0 : w.heap.size < wa.heap.size := (by omega); have hz_wa_w_1 : w.heap.size + 1 < wa.heap.size := (by omega)) | (go_at_call 23; with_reducible refine (c2 _).mono ?_; rintro e wb ⟨rfl, hb_wb⟩; have hc_wb := (bcell hb_wb).1; have hf_wb := (bcell hb_wb).2; have hz_wb : _ ≤ wb.heap.size := hb_wb.size; (try simp only [World.size_alloc, World.heap_drewN, World.size_setCell, heap_drew] at hc_wb hf_wb hz_wb); have hz_wb_w_0 : w.heap.size < wb.heap.size := (by omega); have hz_wb_w_1 : w.heap.size + 1 < wb.heap.size := (by omega)))
  refine bodyPost_ret (by simp only [results, Try.results10]; go_simp; try rfl) rfl ⟨rfl, ?_⟩
  repeat (with_reducible first | exact Below.refl _ _ | assumption | refine below_drewN ?_ _ | refine Below.drew ?_ | refine Below.setCell ?_ (by first | omega | (simp; done) | (simp; omega)) _ | refine Below.alloc ?_ (by first | omega | (simp; done) | (simp; omega)) _ | refine Below.trans ?_ (Below.mono (by assumption) (by first | omega | (simp; done) | (simp; omega))))

set_option maxHeartbeats 4000000 in
theorem need_wide (m : ByteArray) (off n k : Nat) (hn : n < Q256) (h0 : n ≠ 0)
    (c1 : ∀ W, Calls Try.prog 23 #[W4 off] W fun e w' => e = .returned (.tuple #[.int .u64 (off : Nat), .bool true]) ∧ Below W.heap.size W w')
    (c2 : ∀ W, Calls Try.prog 23 #[W4 n] W fun e w' => e = .returned (.tuple #[.int .u64 (k : Nat), .bool false]) ∧ Below W.heap.size W w') (w : World) :
    Calls Try.prog 10 #[.string m, W4 off, W4 n] w fun e w' => e = .returned (.tuple #[.string m, .int .u64 0, .bool false]) ∧ Below w.heap.size w w' := by
  have hz := isZ hn h0
  go_enter Try.func10, Try.ntmps10
  go_wp2_with (first | (go_at_call 23; with_reducible refine (c1 _).mono ?_; rintro e wa ⟨rfl, hb_wa⟩; have hc_wa := (bcell hb_wa).1; have hf_wa := (bcell hb_wa).2; have hz_wa : _ ≤ wa.heap.size := hb_wa.size; (try simp only [World.size_alloc, World.heap_drewN, World.size_setCell, heap_drew] at hc_wa hf_wa hz_wa); have hz_wa_w_0 : w.heap.size < wa.heap.size := (by omega); have hz_wa_w_1 : w.heap.size + 1 < wa.heap.size := (by omega)) | (go_at_call 23; with_reducible refine (c2 _).mono ?_; rintro e wb ⟨rfl, hb_wb⟩; have hc_wb := (bcell hb_wb).1; have hf_wb := (bcell hb_wb).2; have hz_wb : _ ≤ wb.heap.size := hb_wb.size; (try simp only [World.size_alloc, World.heap_drewN, World.size_setCell, heap_drew] at hc_wb hf_wb hz_wb); have hz_wb_w_0 : w.heap.size < wb.heap.size := (by omega); have hz_wb_w_1 : w.heap.size + 1 < wb.heap.size := (by omega)))
  refine bodyPost_ret (by simp only [results, Try.results10]; go_simp; try rfl) rfl ⟨rfl, ?_⟩
  repeat (with_reducible first | exact Below.refl _ _ | assumption | refine below_drewN ?_ _ | refine Below.drew ?_ | refine Below.setCell ?_ (by first | omega | (simp; done) | (simp; omega)) _ | refine Below.alloc ?_ (by first | omega | (simp; done) | (simp; omega)) _ | refine Below.trans ?_ (Below.mono (by assumption) (by first | omega | (simp; done) | (simp; omega))))

set_option maxHeartbeats 4000000 in
theorem need_over (m : ByteArray) (off n : Nat) (hn : n < Q256) (h0 : n ≠ 0) (h1 : off ≤ 65536) (h2 : n ≤ 65536) (h3 : 65536 < off + n)
    (c1 : ∀ W, Calls Try.prog 23 #[W4 off] W fun e w' => e = .returned (.tuple #[.int .u64 (off : Nat), .bool true]) ∧ Below W.heap.size W w')
    (c2 : ∀ W, Calls Try.prog 23 #[W4 n] W fun e w' => e = .returned (.tuple #[.int .u64 (n : Nat), .bool true]) ∧ Below W.heap.size W w') (w : World) :
    Calls Try.prog 10 #[.string m, W4 off, W4 n] w fun e w' => e = .returned (.tuple #[.string m, .int .u64 0, .bool false]) ∧ Below w.heap.size w w' := by
  have h3i : (65536 : Int) < (off : Int) + (n : Int) := by omega
  have hz := isZ hn h0
  go_enter Try.func10, Try.ntmps10
  go_wp2_with (first | (go_at_call 23; with_reducible refine (c1 _).mono ?_; rintro e wa ⟨rfl, hb_wa⟩; have hc_wa := (bcell hb_wa).1; have hf_wa := (bcell hb_wa).2; have hz_wa : _ ≤ wa.heap.size := hb_wa.size; (try simp only [World.size_alloc, World.heap_drewN, World.size_setCell, heap_drew] at hc_wa hf_wa hz_wa); have hz_wa_w_0 : w.heap.size < wa.heap.size := (by omega); have hz_wa_w_1 : w.heap.size + 1 < wa.heap.size := (by omega)) | (go_at_call 23; with_reducible refine (c2 _).mono ?_; rintro e wb ⟨rfl, hb_wb⟩; have hc_wb := (bcell hb_wb).1; have hf_wb := (bcell hb_wb).2; have hz_wb : _ ≤ wb.heap.size := hb_wb.size; (try simp only [World.size_alloc, World.heap_drewN, World.size_setCell, heap_drew] at hc_wb hf_wb hz_wb); have hz_wb_w_0 : w.heap.size < wb.heap.size := (by omega); have hz_wb_w_1 : w.heap.size + 1 < wb.heap.size := (by omega)))
  refine bodyPost_ret (by simp only [results, Try.results10]; go_simp; try rfl) rfl ⟨rfl, ?_⟩
  repeat (with_reducible first | exact Below.refl _ _ | assumption | refine below_drewN ?_ _ | refine Below.drew ?_ | refine Below.setCell ?_ (by first | omega | (simp; done) | (simp; omega)) _ | refine Below.alloc ?_ (by first | omega | (simp; done) | (simp; omega)) _ | refine Below.trans ?_ (Below.mono (by assumption) (by first | omega | (simp; done) | (simp; omega))))

set_option maxHeartbeats 4000000 in
theorem need_has (m : ByteArray) (off n : Nat) (hm : m.size ≤ 100000) (hn : n < Q256) (h0 : n ≠ 0) (h3 : off + n ≤ 65536) (h4 : needE off n ≤ m.size)
    (c1 : ∀ W, Calls Try.prog 23 #[W4 off] W fun e w' => e = .returned (.tuple #[.int .u64 (off : Nat), .bool true]) ∧ Below W.heap.size W w')
    (c2 : ∀ W, Calls Try.prog 23 #[W4 n] W fun e w' => e = .returned (.tuple #[.int .u64 (n : Nat), .bool true]) ∧ Below W.heap.size W w') (w : World) :
    Calls Try.prog 10 #[.string m, W4 off, W4 n] w fun e w' => e = .returned (.tuple #[.string m, .int .u64 0, .bool true]) ∧ Below w.heap.size w w' := by
  have h3i : (off : Int) + (n : Int) ≤ (65536 : Int) := by omega
  have hA : ((off : Int) + (n : Int) + 32 - 1) / 32 * 32 = ((needE off n : Nat) : Int) := by unfold needE; omega
  have hE := needE_le h3
  generalize needE off n = E at *
  have h4i : (E : Int) ≤ (m.size : Int) := by omega
  have hz := isZ hn h0
  go_enter Try.func10, Try.ntmps10
  go_wp2_with (first | (go_at_call 23; with_reducible refine (c1 _).mono ?_; rintro e wa ⟨rfl, hb_wa⟩; have hc_wa := (bcell hb_wa).1; have hf_wa := (bcell hb_wa).2; have hz_wa : _ ≤ wa.heap.size := hb_wa.size; (try simp only [World.size_alloc, World.heap_drewN, World.size_setCell, heap_drew] at hc_wa hf_wa hz_wa); have hz_wa_w_0 : w.heap.size < wa.heap.size := (by omega); have hz_wa_w_1 : w.heap.size + 1 < wa.heap.size := (by omega)) | (go_at_call 23; with_reducible refine (c2 _).mono ?_; rintro e wb ⟨rfl, hb_wb⟩; have hc_wb := (bcell hb_wb).1; have hf_wb := (bcell hb_wb).2; have hz_wb : _ ≤ wb.heap.size := hb_wb.size; (try simp only [World.size_alloc, World.heap_drewN, World.size_setCell, heap_drew] at hc_wb hf_wb hz_wb); have hz_wb_w_0 : w.heap.size < wb.heap.size := (by omega); have hz_wb_w_1 : w.heap.size + 1 < wb.heap.size := (by omega)))
  refine bodyPost_ret (by simp only [results, Try.results10]; go_simp; try rfl) rfl ⟨rfl, ?_⟩
  repeat (with_reducible first | exact Below.refl _ _ | assumption | refine below_drewN ?_ _ | refine Below.drew ?_ | refine Below.setCell ?_ (by first | omega | (simp; done) | (simp; omega)) _ | refine Below.alloc ?_ (by first | omega | (simp; done) | (simp; omega)) _ | refine Below.trans ?_ (Below.mono (by assumption) (by first | omega | (simp; done) | (simp; omega))))

set_option maxHeartbeats 4000000 in
theorem need_more (m : ByteArray) (off n : Nat) (hn : n < Q256) (h0 : n ≠ 0) (h3 : off + n ≤ 65536) (h4 : m.size < needE off n)
    (c1 : ∀ W, Calls Try.prog 23 #[W4 off] W fun e w' => e = .returned (.tuple #[.int .u64 (off : Nat), .bool true]) ∧ Below W.heap.size W w')
    (c2 : ∀ W, Calls Try.prog 23 #[W4 n] W fun e w' => e = .returned (.tuple #[.int .u64 (n : Nat), .bool true]) ∧ Below W.heap.size W w') (w : World) :
    Calls Try.prog 10 #[.string m, W4 off, W4 n] w fun e w' => e = .returned (.tuple #[.string (m ++ zeros (needE off n - m.size)), .int .u64 (costF (needE off n) - costF m.size : Nat), .bool true]) ∧ Below w.heap.size w w' := by
  have h3i : (off : Int) + (n : Int) ≤ (65536 : Int) := by omega
  have hA : ((off : Int) + (n : Int) + 32 - 1) / 32 * 32 = ((needE off n : Nat) : Int) := by unfold needE; omega
  have hE := needE_le h3
  generalize needE off n = E at *
  have h4i : (m.size : Int) < (E : Int) := by omega
  have hD : (E : Int) - (m.size : Int) = ((E - m.size : Nat) : Int) := by omega
  have c3 := fun W => strings_Repeat ⟨#[0]⟩ (E - m.size) W (by omega) (by rw [show (ByteArray.mk #[0]).size = 1 from rfl]; omega)
  rw [repeat_zeros] at c3
  have c4 := fun W => Cost_any E (by omega) W
  have c5 := fun W => Cost_any m.size (by omega) W
  have hle := costF_mono (Nat.le_of_lt h4)
  have hlt := costF_le (show E ≤ 100000 by omega)
  have hS : ((costF E : Nat) : Int) - ((costF m.size : Nat) : Int) = ((costF E - costF m.size : Nat) : Int) := by omega
  generalize costF E = CE at *
  generalize costF m.size = CM at *
  generalize hD' : E - m.size = D at *
  generalize hS' : CE - CM = S at *
  have hz := isZ hn h0
  go_enter Try.func10, Try.ntmps10
  go_wp2_with (first | (go_at_call 23; with_reducible refine (c1 _).mono ?_; rintro e wa ⟨rfl, hb_wa⟩; have hc_wa := (bcell hb_wa).1; have hf_wa := (bcell hb_wa).2; have hz_wa : _ ≤ wa.heap.size := hb_wa.size; (try simp only [World.size_alloc, World.heap_drewN, World.size_setCell, heap_drew] at hc_wa hf_wa hz_wa); have hz_wa_w_0 : w.heap.size < wa.heap.size := (by omega); have hz_wa_w_1 : w.heap.size + 1 < wa.heap.size := (by omega)) | (go_at_call 23; with_reducible refine (c2 _).mono ?_; rintro e wb ⟨rfl, hb_wb⟩; have hc_wb := (bcell hb_wb).1; have hf_wb := (bcell hb_wb).2; have hz_wb : _ ≤ wb.heap.size := hb_wb.size; (try simp only [World.size_alloc, World.heap_drewN, World.size_setCell, heap_drew] at hc_wb hf_wb hz_wb); have hz_wb_w_0 : w.heap.size < wb.heap.size := (by omega); have hz_wb_w_1 : w.heap.size + 1 < wb.heap.size := (by omega)))
  have hcat : ¬ 9223372036854775807 < m.size + (zeros D).size := by rw [zeros_size]; omega
  have hcat2 : m.size + (zeros D).size ≤ 9223372036854775807 := by rw [zeros_size]; omega
  go_at_call 24
  with_reducible refine (c3 _).mono ?_
  rintro e wc ⟨rfl, hb_wc⟩
  have hc_wc := (bcell hb_wc).1; have hf_wc := (bcell hb_wc).2; have hz_wc : _ ≤ wc.heap.size := hb_wc.size; (try simp only [World.size_alloc, World.heap_drewN, World.size_setCell, heap_drew] at hc_wc hf_wc hz_wc); have hz_wc_w_0 : w.heap.size < wc.heap.size := (by omega); have hz_wc_w_1 : w.heap.size + 1 < wc.heap.size := (by omega)
  go_wp2_with (first | (go_at_call 11; with_reducible refine (c4 _).mono ?_; rintro e _ ⟨rfl, rfl⟩) | (go_at_call 11; with_reducible refine (c5 _).mono ?_; rintro e _ ⟨rfl, rfl⟩))
  refine bodyPost_ret (by simp only [results, Try.results10]; go_simp; try rfl) rfl ⟨rfl, ?_⟩
  repeat (with_reducible first | exact Below.refl _ _ | assumption | refine below_drewN ?_ _ | refine Below.drew ?_ | refine Below.setCell ?_ (by first | omega | (simp; done) | (simp; omega)) _ | refine Below.alloc ?_ (by first | omega | (simp; done) | (simp; omega)) _ | refine Below.trans ?_ (Below.mono (by assumption) (by first | omega | (simp; done) | (simp; omega))))

/-- Need. -/
theorem Need_any (m : ByteArray) (off n : Nat) (hm : m.size ≤ 100000) (ho : off < Q256) (hn : n < Q256) (w : World) :
    Calls Try.prog 10 #[.string m, W4 off, W4 n] w fun e w' => e = .returned (.tuple #[.string (needM m off n), .int .u64 (costF (needM m off n).size - costF m.size : Nat), .bool (needB off n)]) ∧ Below w.heap.size w w' := by
  have hb : ∀ {b : Bool}, needB off n = b → b = needB off n := fun h => h.symm
  by_cases h0 : n = 0
  · subst h0
    rw [needM_same (by omega), Nat.sub_self, show needB off 0 = true from by unfold needB; simp]
    exact need_zero m off w
  · by_cases h3 : off + n ≤ 65536
    · rw [show needB off n = true from by unfold needB; simp [h3]]
      have c1 := fun W => small_yes off (by omega) W
      have c2 := fun W => small_yes n (by omega) W
      by_cases h4 : m.size < needE off n
      · rw [needM_size ⟨h0, h3, h4⟩, needM_more ⟨h0, h3, h4⟩]
        exact need_more m off n hn h0 h3 h4 c1 c2 w
      · rw [needM_same (by omega), Nat.sub_self]
        exact need_has m off n hm hn h0 h3 (by omega) c1 c2 w
    · rw [needM_same (by omega), Nat.sub_self, show needB off n = false from by unfold needB; simp; omega]
      by_cases h1 : off ≤ 65536
      · have c1 := fun W => small_yes off h1 W
        by_cases h2 : n ≤ 65536
        · exact need_over m off n hn h0 h1 h2 (by omega) c1 (fun W => small_yes n h2 W) w
        · exact need_wide m off n _ hn h0 c1 (fun W => small_no n hn h2 W) w
      · have c1 := fun W => small_no off ho h1 W
        by_cases h2 : n ≤ 65536
        · exact need_far m off n _ _ hn h0 c1 (fun W => small_yes n h2 W) w
        · exact need_far m off n _ _ hn h0 c1 (fun W => small_no n hn h2 W) w

set_option maxHeartbeats 4000000 in
/-- shown. -/
theorem shown_any (w : World) :
    Calls Try.prog 8 #[] w fun e w' => e = .returned (.bool true) ∧ Below w.heap.size w w' := by
  have c1 := fun W => Need_any ⟨#[]⟩ 0 33 (by decide) (by decide +kernel) (by decide +kernel) W
  have c2 := fun W => Cost_any 65536 (by decide) W
  have hn : needM ⟨#[]⟩ 0 33 = zeros 64 := by decide +kernel
  rw [hn, zeros_size] at c1
  have hzs := zeros_size 64
  generalize zeros 64 = Z at c1 hzs
  have h33 : W4 33 = .agg #[.int .u64 33, .int .u64 0, .int .u64 0, .int .u64 0] := by
    obtain ⟨e0, e1, e2, e3⟩ := lb_small (show 33 < M64 by decide +kernel)
    rw [W4, e0, e1, e2, e3]
    rfl
  rw [h33, zeroW, show costF 64 - costF (ByteArray.mk #[]).size = 6 from by decide +kernel, show needB 0 33 = true from by decide +kernel] at c1
  rw [show costF 65536 = 14336 from by decide +kernel] at c2
  have hzi : ((Z.size : Nat) : Int) = 64 := by omega
  go_enter Try.func8, Try.ntmps8
  go_wp2_with (first | (go_at_call 10; with_reducible refine (c1 _).mono ?_; rintro e wa ⟨rfl, hb_wa⟩; have hc_wa := (bcell hb_wa).1; have hf_wa := (bcell hb_wa).2; have hz_wa : _ ≤ wa.heap.size := hb_wa.size; (try simp only [World.size_alloc, World.heap_drewN, World.size_setCell, heap_drew] at hc_wa hf_wa hz_wa)) | (go_at_call 11; refine (c2 _).mono ?_; rintro e _ ⟨rfl, rfl⟩))
  go_ret
  exact ⟨rfl, hb_wa⟩
end Go.Proofs.Ytbgeenkkdfbngaa
