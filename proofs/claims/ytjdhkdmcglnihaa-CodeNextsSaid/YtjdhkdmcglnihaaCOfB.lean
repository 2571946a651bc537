/-
  The contract of the document's Of. Conditions: none.
-/
import Derived.Test.YtjdhkdmcglnihaaCOf
namespace Go.Proofs.Ytjdhkdmcglnihaa
open Go.RowKit Go.Shelf
attribute [local go_sem] leftBy
set_option linter.unusedSimpArgs false
set_option linter.unusedVariables false


set_option maxRecDepth 100000 in
set_option maxHeartbeats 8000000 in
theorem Of_push (b : Nat) (h : 96 ≤ b) (h2 : b ≤ 127) (w : World) :
    Calls Try.prog 15 #[.int .u8 (b : Nat)] w fun e w' => e = .returned (rowA ((0, 1, 3), true)) ∧ Below w.heap.size w w' := by
  have hand := and_15 b (by omega)
  have g96 : (96 : Int) ≤ (b : Int) := by omega
  have g128 : ¬ (128 : Int) ≤ (b : Int) := by omega
  have g144 : ¬ (144 : Int) ≤ (b : Int) := by omega
  have g160 : ¬ (160 : Int) ≤ (b : Int) := by omega
  have l127 : (b : Int) ≤ 127 := by omega
  have l143 : (b : Int) ≤ 143 := by omega
  have l159 : (b : Int) ≤ 159 := by omega
  have l164 : (b : Int) ≤ 164 := by omega
  go_enter Try.func15, Try.ntmps15
  go_wp2
  refine bodyPost_ret (by simp only [results, Try.results15]; go_simp; try rfl) rfl ⟨rfl, ?_⟩
  repeat (with_reducible first | exact Below.refl _ _ | assumption | refine below_drewN ?_ _ | refine Below.drew ?_ | refine Below.setCell ?_ (by first | omega | (simp; done) | (simp; omega)) _ | refine Below.alloc ?_ (by first | omega | (simp; done) | (simp; omega)) _ | refine Below.trans ?_ (Below.mono (by assumption) (by first | omega | (simp; done) | (simp; omega))))

set_option maxRecDepth 100000 in
set_option maxHeartbeats 8000000 in
theorem Of_dup (b : Nat) (h : 128 ≤ b) (h2 : b ≤ 143) (w : World) :
    Calls Try.prog 15 #[.int .u8 (b : Nat)] w fun e w' => e = .returned (rowA ((b % 16 + 1, b % 16 + 2, 3), true)) ∧ Below w.heap.size w w' := by
  have hand := and_15 b (by omega)
  have g96 : (96 : Int) ≤ (b : Int) := by omega
  have g128 : (128 : Int) ≤ (b : Int) := by omega
  have g144 : ¬ (144 : Int) ≤ (b : Int) := by omega
  have g160 : ¬ (160 : Int) ≤ (b : Int) := by omega
  have l127 : ¬ (b : Int) ≤ 127 := by omega
  have l143 : (b : Int) ≤ 143 := by omega
  have l159 : (b : Int) ≤ 159 := by omega
  have l164 : (b : Int) ≤ 164 := by omega
  go_enter Try.func15, Try.ntmps15
  go_wp2
  refine bodyPost_ret (by simp only [results, Try.results15]; go_simp; try rfl) rfl ⟨rfl, ?_⟩
  repeat (with_reducible first | exact Below.refl _ _ | assumption | refine below_drewN ?_ _ | refine Below.drew ?_ | refine Below.setCell ?_ (by first | omega | (simp; done) | (simp; omega)) _ | refine Below.alloc ?_ (by first | omega | (simp; done) | (simp; omega)) _ | refine Below.trans ?_ (Below.mono (by assumption) (by first | omega | (simp; done) | (simp; omega))))

set_option maxRecDepth 100000 in
set_option maxHeartbeats 8000000 in
theorem Of_swap (b : Nat) (h : 144 ≤ b) (h2 : b ≤ 159) (w : World) :
    Calls Try.prog 15 #[.int .u8 (b : Nat)] w fun e w' => e = .returned (rowA ((b % 16 + 2, b % 16 + 2, 3), true)) ∧ Below w.heap.size w w' := by
  have hand := and_15 b (by omega)
  have g96 : (96 : Int) ≤ (b : Int) := by omega
  have g128 : (128 : Int) ≤ (b : Int) := by omega
  have g144 : (144 : Int) ≤ (b : Int) := by omega
  have g160 : ¬ (160 : Int) ≤ (b : Int) := by omega
  have l127 : ¬ (b : Int) ≤ 127 := by omega
  have l143 : ¬ (b : Int) ≤ 143 := by omega
  have l159 : (b : Int) ≤ 159 := by omega
  have l164 : (b : Int) ≤ 164 := by omega
  go_enter Try.func15, Try.ntmps15
  go_wp2
  refine bodyPost_ret (by simp only [results, Try.results15]; go_simp; try rfl) rfl ⟨rfl, ?_⟩
  repeat (with_reducible first | exact Below.refl _ _ | assumption | refine below_drewN ?_ _ | refine Below.drew ?_ | refine Below.setCell ?_ (by first | omega | (simp; done) | (simp; omega)) _ | refine Below.alloc ?_ (by first | omega | (simp; done) | (simp; omega)) _ | refine Below.trans ?_ (Below.mono (by assumption) (by first | omega | (simp; done) | (simp; omega))))

set_option maxRecDepth 100000 in
set_option maxHeartbeats 8000000 in
theorem Of_log (b : Nat) (h : 160 ≤ b) (h2 : b ≤ 164) (w : World) :
    Calls Try.prog 15 #[.int .u8 (b : Nat)] w fun e w' => e = .returned (rowA ((b % 16 + 2, 0, 375 * (b % 16 + 1)), true)) ∧ Below w.heap.size w w' := by
  have hand := and_15 b (by omega)
  have g96 : (96 : Int) ≤ (b : Int) := by omega
  have g128 : (128 : Int) ≤ (b : Int) := by omega
  have g144 : (144 : Int) ≤ (b : Int) := by omega
  have g160 : (160 : Int) ≤ (b : Int) := by omega
  have l127 : ¬ (b : Int) ≤ 127 := by omega
  have l143 : ¬ (b : Int) ≤ 143 := by omega
  have l159 : ¬ (b : Int) ≤ 159 := by omega
  have l164 : (b : Int) ≤ 164 := by omega
  go_enter Try.func15, Try.ntmps15
  go_wp2
  refine bodyPost_ret (by simp only [results, Try.results15]; go_simp; try rfl) rfl ⟨rfl, ?_⟩
  repeat (with_reducible first | exact Below.refl _ _ | assumption | refine below_drewN ?_ _ | refine Below.drew ?_ | refine Below.setCell ?_ (by first | omega | (simp; done) | (simp; omega)) _ | refine Below.alloc ?_ (by first | omega | (simp; done) | (simp; omega)) _ | refine Below.trans ?_ (Below.mono (by assumption) (by first | omega | (simp; done) | (simp; omega))))

set_option maxRecDepth 100000 in
set_option maxHeartbeats 8000000 in
theorem Of_low (b : Nat) (h : b ≤ 95) (w : World) :
    Calls Try.prog 15 #[.int .u8 (b : Nat)] w fun e w' => e = .returned (rowA (if (arithF b).2 = true then arithF b else if (outF b).2 = true then outF b else aloneF b)) ∧ Below w.heap.size w w' := by
  have hand := and_15 b (by omega)
  have g96 : ¬ (96 : Int) ≤ (b : Int) := by omega
  have g128 : ¬ (128 : Int) ≤ (b : Int) := by omega
  have g144 : ¬ (144 : Int) ≤ (b : Int) := by omega
  have g160 : ¬ (160 : Int) ≤ (b : Int) := by omega
  have l127 : (b : Int) ≤ 127 := by omega
  have l143 : (b : Int) ≤ 143 := by omega
  have l159 : (b : Int) ≤ 159 := by omega
  have l164 : (b : Int) ≤ 164 := by omega
  have c1 := fun W => arith_any b W
  have c2 := fun W => out_any b W
  have c3 := fun W => alone_any b W
  generalize arithF b = A at *
  generalize outF b = O at *
  generalize aloneF b = L at *
  obtain ⟨⟨a1, a2, a3⟩, x⟩ := A
  obtain ⟨⟨o1, o2, o3⟩, y⟩ := O
  obtain ⟨⟨l1, l2, l3⟩, z⟩ := L
  unfold rowA at c1 c2 c3
  dsimp only at c1 c2 c3
  cases x with
  | true =>
    rw [if_pos rfl]
    go_enter Try.func15, Try.ntmps15
    go_wp2_with (first | (go_at_call 20; refine (c1 _).mono ?_; rintro e wa ⟨rfl, hb_wa⟩; have hc_wa := (bcell hb_wa).1; have hf_wa := (bcell hb_wa).2; have hz_wa : _ ≤ wa.heap.size := hb_wa.size; (try simp only [World.size_alloc, World.heap_drewN, World.size_setCell, heap_drew] at hc_wa hf_wa hz_wa); have hz_wa_w_0 : w.heap.size < wa.heap.size := (by omega)) | (go_at_call 21; refine (c2 _).mono ?_; rintro e wb ⟨rfl, hb_wb⟩; have hc_wb := (bcell hb_wb).1; have hf_wb := (bcell hb_wb).2; have hz_wb : _ ≤ wb.heap.size := hb_wb.size; (try simp only [World.size_alloc, World.heap_drewN, World.size_setCell, heap_drew] at hc_wb hf_wb hz_wb); have hz_wb_w_0 : w.heap.size < wb.heap.size := (by omega); have hz_wb_wa_0 : wa.heap.size < wb.heap.size := (by omega)) | (go_at_call 22; refine (c3 _).mono ?_; rintro e wc ⟨rfl, hb_wc⟩; have hc_wc := (bcell hb_wc).1; have hf_wc := (bcell hb_wc).2; have hz_wc : _ ≤ wc.heap.size := hb_wc.size; (try simp only [World.size_alloc, World.heap_drewN, World.size_setCell, heap_drew] at hc_wc hf_wc hz_wc); have hz_wc_w_0 : w.heap.size < wc.heap.size := (by omega); have hz_wc_wa_0 : wa.heap.size < wc.heap.size := (by omega); have hz_wc_wb_0 : wb.heap.size < wc.heap.size := (by omega)))
    refine bodyPost_ret (by simp only [results, Try.results15]; go_simp; try rfl) rfl ⟨rfl, ?_⟩
    repeat (with_reducible first | exact Below.refl _ _ | assumption | refine below_drewN ?_ _ | refine Below.drew ?_ | refine Below.setCell ?_ (by first | omega | (simp; done) | (simp; omega)) _ | refine Below.alloc ?_ (by first | omega | (simp; done) | (simp; omega)) _ | refine Below.trans ?_ (Below.mono (by assumption) (by first | omega | (simp; done) | (simp; omega))))
  | false =>
    rw [if_neg (by simp)]
    cases y with
    | true =>
      rw [if_pos rfl]
      go_enter Try.func15, Try.ntmps15
      go_wp2_with (first | (go_at_call 20; refine (c1 _).mono ?_; rintro e wa ⟨rfl, hb_wa⟩; have hc_wa := (bcell hb_wa).1; have hf_wa := (bcell hb_wa).2; have hz_wa : _ ≤ wa.heap.size := hb_wa.size; (try simp only [World.size_alloc, World.heap_drewN, World.size_setCell, heap_drew] at hc_wa hf_wa hz_wa); have hz_wa_w_0 : w.heap.size < wa.heap.size := (by omega)) | (go_at_call 21; refine (c2 _).mono ?_; rintro e wb ⟨rfl, hb_wb⟩; have hc_wb := (bcell hb_wb).1; have hf_wb := (bcell hb_wb).2; have hz_wb : _ ≤ wb.heap.size := hb_wb.size; (try simp only [World.size_alloc, World.heap_drewN, World.size_setCell, heap_drew] at hc_wb hf_wb hz_wb); have hz_wb_w_0 : w.heap.size < wb.heap.size := (by omega); have hz_wb_wa_0 : wa.heap.size < wb.heap.size := (by omega)) | (go_at_call 22; refine (c3 _).mono ?_; rintro e wc ⟨rfl, hb_wc⟩; have hc_wc := (bcell hb_wc).1; have hf_wc := (bcell hb_wc).2; have hz_wc : _ ≤ wc.heap.size := hb_wc.size; (try simp only [World.size_alloc, World.heap_drewN, World.size_setCell, heap_drew] at hc_wc hf_wc hz_wc); have hz_wc_w_0 : w.heap.size < wc.heap.size := (by omega); have hz_wc_wa_0 : wa.heap.size < wc.heap.size := (by omega); have hz_wc_wb_0 : wb.heap.size < wc.heap.size := (by omega)))
      have r0 : wb.heap[w.heap.size]? = some (.cells #[.int .i64 0, .int .i64 0, .int .u64 0, .bool false] 35 (0, 0)) := (hb_wb.block _ (by simp; omega)).trans ((Below.heap_alloc _ _ _ (by omega)).trans ((hb_wa.block _ (by simp)).trans (heap_new rfl)))
      have r4 := setCell_at (setCell_at (setCell_at (setCell_at r0 0 (.int .i64 (o1 : Nat))) 1 (.int .i64 (o2 : Nat))) 2 (.int .u64 (o3 : Nat))) 3 (.bool true)
      refine bodyPost_ret (results_cell_row (p := 2) (ty := 35) (by simp only [Try.results15]) _ _ w.heap.size _ _ (0, 0) _ rfl ((Below.heap_alloc _ _ _ (by simp; omega)).trans r4) Try.underlying35 rfl (by kernel_rfl)) rfl ⟨rfl, ?_⟩
      repeat (with_reducible first | exact Below.refl _ _ | assumption | refine below_drewN ?_ _ | refine Below.drew ?_ | refine Below.setCell ?_ (by first | omega | (simp; done) | (simp; omega)) _ | refine Below.alloc ?_ (by first | omega | (simp; done) | (simp; omega)) _ | refine Below.trans ?_ (Below.mono (by assumption) (by first | omega | (simp; done) | (simp; omega))))
    | false =>
      rw [if_neg (by simp)]
      go_enter Try.func15, Try.ntmps15
      go_wp2_with (first | (go_at_call 20; refine (c1 _).mono ?_; rintro e wa ⟨rfl, hb_wa⟩; have hc_wa := (bcell hb_wa).1; have hf_wa := (bcell hb_wa).2; have hz_wa : _ ≤ wa.heap.size := hb_wa.size; (try simp only [World.size_alloc, World.heap_drewN, World.size_setCell, heap_drew] at hc_wa hf_wa hz_wa); have hz_wa_w_0 : w.heap.size < wa.heap.size := (by omega)) | (go_at_call 21; refine (c2 _).mono ?_; rintro e wb ⟨rfl, hb_wb⟩; have hc_wb := (bcell hb_wb).1; have hf_wb := (bcell hb_wb).2; have hz_wb : _ ≤ wb.heap.size := hb_wb.size; (try simp only [World.size_alloc, World.heap_drewN, World.size_setCell, heap_drew] at hc_wb hf_wb hz_wb); have hz_wb_w_0 : w.heap.size < wb.heap.size := (by omega); have hz_wb_wa_0 : wa.heap.size < wb.heap.size := (by omega)) | (go_at_call 22; refine (c3 _).mono ?_; rintro e wc ⟨rfl, hb_wc⟩; have hc_wc := (bcell hb_wc).1; have hf_wc := (bcell hb_wc).2; have hz_wc : _ ≤ wc.heap.size := hb_wc.size; (try simp only [World.size_alloc, World.heap_drewN, World.size_setCell, heap_drew] at hc_wc hf_wc hz_wc); have hz_wc_w_0 : w.heap.size < wc.heap.size := (by omega); have hz_wc_wa_0 : wa.heap.size < wc.heap.size := (by omega); have hz_wc_wb_0 : wb.heap.size < wc.heap.size := (by omega)))
      have r0 : wc.heap[w.heap.size]? = some (.cells #[.int .i64 0, .int .i64 0, .int .u64 0, .bool false] 35 (0, 0)) := (hb_wc.block _ (by simp; omega)).trans ((Below.heap_alloc _ _ _ (by omega)).trans ((hb_wb.block _ (by simp; omega)).trans ((Below.heap_alloc _ _ _ (by omega)).trans ((hb_wa.block _ (by simp)).trans (heap_new rfl)))))
      have r4 := setCell_at (setCell_at (setCell_at (setCell_at r0 0 (.int .i64 (l1 : Nat))) 1 (.int .i64 (l2 : Nat))) 2 (.int .u64 (l3 : Nat))) 3 (.bool z)
      refine bodyPost_ret (results_cell_row (p := 2) (ty := 35) (by simp only [Try.results15]) _ _ w.heap.size _ _ (0, 0) _ rfl r4 Try.underlying35 rfl (by kernel_rfl)) rfl ⟨rfl, ?_⟩
      repeat (with_reducible first | exact Below.refl _ _ | assumption | refine below_drewN ?_ _ | refine Below.drew ?_ | refine Below.setCell ?_ (by first | omega | (simp; done) | (simp; omega)) _ | refine Below.alloc ?_ (by first | omega | (simp; done) | (simp; omega)) _ | refine Below.trans ?_ (Below.mono (by assumption) (by first | omega | (simp; done) | (simp; omega))))

set_option maxRecDepth 100000 in
set_option maxHeartbeats 8000000 in
theorem Of_high (b : Nat) (h : 165 ≤ b) (h2 : b < 256) (w : World) :
    Calls Try.prog 15 #[.int .u8 (b : Nat)] w fun e w' => e = .returned (rowA (if (arithF b).2 = true then arithF b else if (outF b).2 = true then outF b else aloneF b)) ∧ Below w.heap.size w w' := by
  have hand := and_15 b (by omega)
  have g96 : (96 : Int) ≤ (b : Int) := by omega
  have g128 : (128 : Int) ≤ (b : Int) := by omega
  have g144 : (144 : Int) ≤ (b : Int) := by omega
  have g160 : (160 : Int) ≤ (b : Int) := by omega
  have l127 : ¬ (b : Int) ≤ 127 := by omega
  have l143 : ¬ (b : Int) ≤ 143 := by omega
  have l159 : ¬ (b : Int) ≤ 159 := by omega
  have l164 : ¬ (b : Int) ≤ 164 := by omega
  have c1 := fun W => arith_any b W
  have c2 := fun W => out_any b W
  have c3 := fun W => alone_any b W
  generalize arithF b = A at *
  generalize outF b = O at *
  generalize aloneF b = L at *
  obtain ⟨⟨a1, a2, a3⟩, x⟩ := A
  obtain ⟨⟨o1, o2, o3⟩, y⟩ := O
  obtain ⟨⟨l1, l2, l3⟩, z⟩ := L
  unfold rowA at c1 c2 c3
  dsimp only at c1 c2 c3
  cases x with
  | true =>
    rw [if_pos rfl]
    go_enter Try.func15, Try.ntmps15
    go_wp2_with (first | (go_at_call 20; refine (c1 _).mono ?_; rintro e wa ⟨rfl, hb_wa⟩; have hc_wa := (bcell hb_wa).1; have hf_wa := (bcell hb_wa).2; have hz_wa : _ ≤ wa.heap.size := hb_wa.size; (try simp only [World.size_alloc, World.heap_drewN, World.size_setCell, heap_drew] at hc_wa hf_wa hz_wa); have hz_wa_w_0 : w.heap.size < wa.heap.size := (by omega)) | (go_at_call 21; refine (c2 _).mono ?_; rintro e wb ⟨rfl, hb_wb⟩; have hc_wb := (bcell hb_wb).1; have hf_wb := (bcell hb_wb).2; have hz_wb : _ ≤ wb.heap.size := hb_wb.size; (try simp only [World.size_alloc, World.heap_drewN, World.size_setCell, heap_drew] at hc_wb hf_wb hz_wb); have hz_wb_w_0 : w.heap.size < wb.heap.size := (by omega); have hz_wb_wa_0 : wa.heap.size < wb.heap.size := (by omega)) | (go_at_call 22; refine (c3 _).mono ?_; rintro e wc ⟨rfl, hb_wc⟩; have hc_wc := (bcell hb_wc).1; have hf_wc := (bcell hb_wc).2; have hz_wc : _ ≤ wc.heap.size := hb_wc.size; (try simp only [World.size_alloc, World.heap_drewN, World.size_setCell, heap_drew] at hc_wc hf_wc hz_wc); have hz_wc_w_0 : w.heap.size < wc.heap.size := (by omega); have hz_wc_wa_0 : wa.heap.size < wc.heap.size := (by omega); have hz_wc_wb_0 : wb.heap.size < wc.heap.size := (by omega)))
    refine bodyPost_ret (by simp only [results, Try.results15]; go_simp; try rfl) rfl ⟨rfl, ?_⟩
    repeat (with_reducible first | exact Below.refl _ _ | assumption | refine below_drewN ?_ _ | refine Below.drew ?_ | refine Below.setCell ?_ (by first | omega | (simp; done) | (simp; omega)) _ | refine Below.alloc ?_ (by first | omega | (simp; done) | (simp; omega)) _ | refine Below.trans ?_ (Below.mono (by assumption) (by first | omega | (simp; done) | (simp; omega))))
  | false =>
    rw [if_neg (by simp)]
    cases y with
    | true =>
      rw [if_pos rfl]
      go_enter Try.func15, Try.ntmps15
      go_wp2_with (first | (go_at_call 20; refine (c1 _).mono ?_; rintro e wa ⟨rfl, hb_wa⟩; have hc_wa := (bcell hb_wa).1; have hf_wa := (bcell hb_wa).2; have hz_wa : _ ≤ wa.heap.size := hb_wa.size; (try simp only [World.size_alloc, World.heap_drewN, World.size_setCell, heap_drew] at hc_wa hf_wa hz_wa); have hz_wa_w_0 : w.heap.size < wa.heap.size := (by omega)) | (go_at_call 21; refine (c2 _).mono ?_; rintro e wb ⟨rfl, hb_wb⟩; have hc_wb := (bcell hb_wb).1; have hf_wb := (bcell hb_wb).2; have hz_wb : _ ≤ wb.heap.size := hb_wb.size; (try simp only [World.size_alloc, World.heap_drewN, World.size_setCell, heap_drew] at hc_wb hf_wb hz_wb); have hz_wb_w_0 : w.heap.size < wb.heap.size := (by omega); have hz_wb_wa_0 : wa.heap.size < wb.heap.size := (by omega)) | (go_at_call 22; refine (c3 _).mono ?_; rintro e wc ⟨rfl, hb_wc⟩; have hc_wc := (bcell hb_wc).1; have hf_wc := (bcell hb_wc).2; have hz_wc : _ ≤ wc.heap.size := hb_wc.size; (try simp only [World.size_alloc, World.heap_drewN, World.size_setCell, heap_drew] at hc_wc hf_wc hz_wc); have hz_wc_w_0 : w.heap.size < wc.heap.size := (by omega); have hz_wc_wa_0 : wa.heap.size < wc.heap.size := (by omega); have hz_wc_wb_0 : wb.heap.size < wc.heap.size := (by omega)))
      have r0 : wb.heap[w.heap.size]? = some (.cells #[.int .i64 0, .int .i64 0, .int .u64 0, .bool false] 35 (0, 0)) := (hb_wb.block _ (by simp; omega)).trans ((Below.heap_alloc _ _ _ (by omega)).trans ((hb_wa.block _ (by simp)).trans (heap_new rfl)))
      have r4 := setCell_at (setCell_at (setCell_at (setCell_at r0 0 (.int .i64 (o1 : Nat))) 1 (.int .i64 (o2 : Nat))) 2 (.int .u64 (o3 : Nat))) 3 (.bool true)
      refine bodyPost_ret (results_cell_row (p := 2) (ty := 35) (by simp only [Try.results15]) _ _ w.heap.size _ _ (0, 0) _ rfl ((Below.heap_alloc _ _ _ (by simp; omega)).trans r4) Try.underlying35 rfl (by kernel_rfl)) rfl ⟨rfl, ?_⟩
      repeat (with_reducible first | exact Below.refl _ _ | assumption | refine below_drewN ?_ _ | refine Below.drew ?_ | refine Below.setCell ?_ (by first | omega | (simp; done) | (simp; omega)) _ | refine Below.alloc ?_ (by first | omega | (simp; done) | (simp; omega)) _ | refine Below.trans ?_ (Below.mono (by assumption) (by first | omega | (simp; done) | (simp; omega))))
    | false =>
      rw [if_neg (by simp)]
      go_enter Try.func15, Try.ntmps15
      go_wp2_with (first | (go_at_call 20; refine (c1 _).mono ?_; rintro e wa ⟨rfl, hb_wa⟩; have hc_wa := (bcell hb_wa).1; have hf_wa := (bcell hb_wa).2; have hz_wa : _ ≤ wa.heap.size := hb_wa.size; (try simp only [World.size_alloc, World.heap_drewN, World.size_setCell, heap_drew] at hc_wa hf_wa hz_wa); have hz_wa_w_0 : w.heap.size < wa.heap.size := (by omega)) | (go_at_call 21; refine (c2 _).mono ?_; rintro e wb ⟨rfl, hb_wb⟩; have hc_wb := (bcell hb_wb).1; have hf_wb := (bcell hb_wb).2; have hz_wb : _ ≤ wb.heap.size := hb_wb.size; (try simp only [World.size_alloc, World.heap_drewN, World.size_setCell, heap_drew] at hc_wb hf_wb hz_wb); have hz_wb_w_0 : w.heap.size < wb.heap.size := (by omega); have hz_wb_wa_0 : wa.heap.size < wb.heap.size := (by omega)) | (go_at_call 22; refine (c3 _).mono ?_; rintro e wc ⟨rfl, hb_wc⟩; have hc_wc := (bcell hb_wc).1; have hf_wc := (bcell hb_wc).2; have hz_wc : _ ≤ wc.heap.size := hb_wc.size; (try simp only [World.size_alloc, World.heap_drewN, World.size_setCell, heap_drew] at hc_wc hf_wc hz_wc); have hz_wc_w_0 : w.heap.size < wc.heap.size := (by omega); have hz_wc_wa_0 : wa.heap.size < wc.heap.size := (by omega); have hz_wc_wb_0 : wb.heap.size < wc.heap.size := (by omega)))
      have r0 : wc.heap[w.heap.size]? = some (.cells #[.int .i64 0, .int .i64 0, .int .u64 0, .bool false] 35 (0, 0)) := (hb_wc.block _ (by simp; omega)).trans ((Below.heap_alloc _ _ _ (by omega)).trans ((hb_wb.block _ (by simp; omega)).trans ((Below.heap_alloc _ _ _ (by omega)).trans ((hb_wa.block _ (by simp)).trans (heap_new rfl)))))
      have r4 := setCell_at (setCell_at (setCell_at (setCell_at r0 0 (.int .i64 (l1 : Nat))) 1 (.int .i64 (l2 : Nat))) 2 (.int .u64 (l3 : Nat))) 3 (.bool z)
      refine bodyPost_ret (results_cell_row (p := 2) (ty := 35) (by simp only [Try.results15]) _ _ w.heap.size _ _ (0, 0) _ rfl r4 Try.underlying35 rfl (by kernel_rfl)) rfl ⟨rfl, ?_⟩
      repeat (with_reducible first | exact Below.refl _ _ | assumption | refine below_drewN ?_ _ | refine Below.drew ?_ | refine Below.setCell ?_ (by first | omega | (simp; done) | (simp; omega)) _ | refine Below.alloc ?_ (by first | omega | (simp; done) | (simp; omega)) _ | refine Below.trans ?_ (Below.mono (by assumption) (by first | omega | (simp; done) | (simp; omega))))

/-- The document's Of. -/
theorem Of_any (b : Nat) (hb : b < 256) (w : World) :
    Calls Try.prog 15 #[.int .u8 (b : Nat)] w fun e w' => e = .returned (rowA (infoF b)) ∧ Below w.heap.size w w' := by
  rw [← of_info b hb]
  unfold ofF
  by_cases h1 : b ≤ 95
  · rw [if_neg (by omega), if_neg (by omega), if_neg (by omega), if_neg (by omega)]
    exact Of_low b h1 w
  · by_cases h2 : b ≤ 127
    · rw [if_pos (by omega)]
      exact Of_push b (by omega) h2 w
    · by_cases h3 : b ≤ 143
      · rw [if_neg (by omega), if_pos (by omega)]
        exact Of_dup b (by omega) h3 w
      · by_cases h4 : b ≤ 159
        · rw [if_neg (by omega), if_neg (by omega), if_pos (by omega)]
          exact Of_swap b (by omega) h4 w
        · by_cases h5 : b ≤ 164
          · rw [if_neg (by omega), if_neg (by omega), if_neg (by omega), if_pos (by omega)]
            exact Of_log b (by omega) h5 w
          · rw [if_neg (by omega), if_neg (by omega), if_neg (by omega), if_neg (by omega)]
            exact Of_high b (by omega) hb w
end Go.Proofs.Ytjdhkdmcglnihaa
