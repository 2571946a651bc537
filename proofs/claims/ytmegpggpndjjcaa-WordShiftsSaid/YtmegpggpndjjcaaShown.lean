/-
  The contract of pharoslaw01.shown: it returns true. Conditions: none.
-/
import Derived.Test.YtmegpggpndjjcaaW3
import Derived.Test.YtmegpggpndjjcaaEq
namespace Go.Proofs.Ytmegpggpndjjcaa
open Go.RowKit
attribute [local go_sem] leftBy eqW guardW
set_option linter.unusedSimpArgs false


theorem W4_lit {n : Nat} {a b c d : Int} (h0 : ((lb n 0 : Nat) : Int) = a) (h1 : ((lb n 1 : Nat) : Int) = b) (h2 : ((lb n 2 : Nat) : Int) = c) (h3 : ((lb n 3 : Nat) : Int) = d) : W4 n = .agg #[.int .u64 a, .int .u64 b, .int .u64 c, .int .u64 d] := by
  unfold W4
  rw [h0, h1, h2, h3]

set_option maxHeartbeats 4000000 in
theorem shown_any (w : World) : Calls Try.prog 14 #[] w fun e w' => e = .returned (.bool true) ∧ Below w.heap.size w w' := by
  have e1 : W4 1 = .agg #[.int .u64 1, .int .u64 0, .int .u64 0, .int .u64 0] := W4_lit (by decide +kernel) (by decide +kernel) (by decide +kernel) (by decide +kernel)
  have e2 : W4 2 = .agg #[.int .u64 2, .int .u64 0, .int .u64 0, .int .u64 0] := W4_lit (by decide +kernel) (by decide +kernel) (by decide +kernel) (by decide +kernel)
  have e7 : W4 7 = .agg #[.int .u64 7, .int .u64 0, .int .u64 0, .int .u64 0] := W4_lit (by decide +kernel) (by decide +kernel) (by decide +kernel) (by decide +kernel)
  have m1 : W4 ((0 + Q256 - 1) % Q256) = .agg #[.int .u64 18446744073709551615, .int .u64 18446744073709551615, .int .u64 18446744073709551615, .int .u64 18446744073709551615] := W4_lit (by decide +kernel) (by decide +kernel) (by decide +kernel) (by decide +kernel)
  have m7 : W4 ((0 + Q256 - 7) % Q256) = .agg #[.int .u64 18446744073709551609, .int .u64 18446744073709551615, .int .u64 18446744073709551615, .int .u64 18446744073709551615] := W4_lit (by decide +kernel) (by decide +kernel) (by decide +kernel) (by decide +kernel)
  have m3 : W4 (sdivW ((0 + Q256 - 7) % Q256) 2) = .agg #[.int .u64 18446744073709551613, .int .u64 18446744073709551615, .int .u64 18446744073709551615, .int .u64 18446744073709551615] := W4_lit (by decide +kernel) (by decide +kernel) (by decide +kernel) (by decide +kernel)
  have c1 : ∀ W, Calls Try.prog 35 #[.int .u64 1] W fun e w' => e = .returned (W4 1) ∧ Below W.heap.size W w' := fun W => Of_any 1 (by decide) W
  have c2 : ∀ W, Calls Try.prog 35 #[.int .u64 2] W fun e w' => e = .returned (W4 2) ∧ Below W.heap.size W w' := fun W => Of_any 2 (by decide) W
  have c7 : ∀ W, Calls Try.prog 35 #[.int .u64 7] W fun e w' => e = .returned (W4 7) ∧ Below W.heap.size W w' := fun W => Of_any 7 (by decide) W
  have s1 := fun W => Sub_any 0 1 (by decide) (by decide) W
  have s7 := fun W => Sub_any 0 7 (by decide) (by decide) W
  have d := fun W => SDiv_any ((0 + Q256 - 7) % Q256) 2 (by decide) (by decide) W
  rw [m1, W4_zero, e1] at s1
  rw [m7, W4_zero, e7] at s7
  rw [m3, m7, e2] at d
  rw [e1] at c1
  rw [e2] at c2
  rw [e7] at c7
  clear e1 e2 e7 m1 m7 m3
  go_enter Try.func14, Try.ntmps14
  go_wp2_with (first
    | (go_at_call 35; with_reducible refine (c1 _).mono ?_; rintro e wa ⟨rfl, hb_wa⟩; have hc_wa := (bcell hb_wa).1; have hf_wa := (bcell hb_wa).2; have hz_wa : _ ≤ wa.heap.size := hb_wa.size; (try simp only [World.size_alloc, World.heap_drewN, World.size_setCell, heap_drew] at hc_wa hf_wa hz_wa))
    | (go_at_call 31; with_reducible refine (s1 _).mono ?_; rintro e wb ⟨rfl, hb_wb⟩; have hc_wb := (bcell hb_wb).1; have hf_wb := (bcell hb_wb).2; have hz_wb : _ ≤ wb.heap.size := hb_wb.size; (try simp only [World.size_alloc, World.heap_drewN, World.size_setCell, heap_drew] at hc_wb hf_wb hz_wb))
    | (go_at_call 35; with_reducible refine (c7 _).mono ?_; rintro e wc ⟨rfl, hb_wc⟩; have hc_wc := (bcell hb_wc).1; have hf_wc := (bcell hb_wc).2; have hz_wc : _ ≤ wc.heap.size := hb_wc.size; (try simp only [World.size_alloc, World.heap_drewN, World.size_setCell, heap_drew] at hc_wc hf_wc hz_wc); have hz_wc_wb_0 : wb.heap.size < wc.heap.size := (by omega))
    | (go_at_call 31; with_reducible refine (s7 _).mono ?_; rintro e wd ⟨rfl, hb_wd⟩; have hc_wd := (bcell hb_wd).1; have hf_wd := (bcell hb_wd).2; have hz_wd : _ ≤ wd.heap.size := hb_wd.size; (try simp only [World.size_alloc, World.heap_drewN, World.size_setCell, heap_drew] at hc_wd hf_wd hz_wd); have hz_wd_wb_0 : wb.heap.size < wd.heap.size := (by omega))
    | (go_at_call 35; with_reducible refine (c2 _).mono ?_; rintro e we ⟨rfl, hb_we⟩; have hc_we := (bcell hb_we).1; have hf_we := (bcell hb_we).2; have hz_we : _ ≤ we.heap.size := hb_we.size; (try simp only [World.size_alloc, World.heap_drewN, World.size_setCell, heap_drew] at hc_we hf_we hz_we); have hz_we_wb_0 : wb.heap.size < we.heap.size := (by omega))
    | (go_at_call 22; with_reducible refine (d _).mono ?_; rintro e wf ⟨rfl, hb_wf⟩; have hc_wf := (bcell hb_wf).1; have hf_wf := (bcell hb_wf).2; have hz_wf : _ ≤ wf.heap.size := hb_wf.size; (try simp only [World.size_alloc, World.heap_drewN, World.size_setCell, heap_drew] at hc_wf hf_wf hz_wf); have hz_wf_wb_0 : wb.heap.size < wf.heap.size := (by omega)))
  go_ret
  refine ⟨rfl, ?_⟩
  repeat (first | exact Below.refl _ _ | refine below_drewN ?_ _ | refine Below.drew ?_ | refine Below.setCell ?_ (by first | omega | (simp; done) | (simp; omega)) _ | refine Below.alloc ?_ (by first | omega | (simp; done) | (simp; omega)) _ | refine Below.trans ?_ (Below.mono (by assumption) (by first | omega | (simp; done) | (simp; omega))))
end Go.Proofs.Ytmegpggpndjjcaa
