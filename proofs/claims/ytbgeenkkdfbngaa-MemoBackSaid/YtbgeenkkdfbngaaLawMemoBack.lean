/-
  What is stored is loaded, and other bytes stay; what was needed once costs nothing more: pharoslaw18.MemoBack returns true at every input. Conditions: none.
-/
import Derived.Test.YtbgeenkkdfbngaaMStore
import Derived.Test.YtbgeenkkdfbngaaOpen
namespace Go.Proofs.Ytbgeenkkdfbngaa.MemoBackDone
open Go.ChangeShapes Go.WideShapes Go.ChangeAt Go.RowKit Go.Proofs.Ytbgeenkkdfbngaa
open Go.ChangeMaps (open_string shut_string)
attribute [local go_sem] leftBy eqW guardW
set_option linter.unusedSimpArgs false
set_option linter.unusedVariables false


set_option maxRecDepth 100000 in
set_option maxHeartbeats 16000000 in
theorem walkIn (m0 m x y p q s : ByteArray) (at0 a off n g : Nat) (ok : Bool)
    (cS : ∀ W, Calls Try.prog 8 #[] W fun e w' => e = .returned (.bool true) ∧ Below W.heap.size W w')
    (cC : ∀ W, Calls Try.prog 9 #[.string m0] W fun e w' => e = .returned (.string m) ∧ w' = W)
    (cT : ∀ W, Calls Try.prog 13 #[.string m, .int .u64 (at0 : Nat), W4 a] W fun e w' => e = .returned (.tuple #[.string x, .int .i64 0]) ∧ Below W.heap.size W w')
    (cL : ∀ W, Calls Try.prog 14 #[.string x, .int .u64 (at0 : Nat)] W fun e w' => e = .returned (.tuple #[W4 a, .int .i64 0]) ∧ Below W.heap.size W w')
    (cB : ∀ W, Calls Try.prog 15 #[W4 a] W fun e w' => e = .returned (.string s) ∧ Below W.heap.size W w')
    (cN : ∀ W, Calls Try.prog 10 #[.string m, W4 off, W4 n] W fun e w' => e = .returned (.tuple #[.string y, .int .u64 (g : Nat), .bool ok]) ∧ Below W.heap.size W w')
    (cY : ∀ W, Calls Try.prog 10 #[.string y, W4 off, W4 n] W fun e w' => e = .returned (.tuple #[.string y, .int .u64 0, .bool ok]) ∧ Below W.heap.size W w')
    (hm : m.size ≤ 10000) (hx : x.size = m.size) (hat : at0 + 32 ≤ m.size) (e1 : x.extract 0 at0 = p) (e2 : m.extract 0 at0 = p) (e3 : x.extract (at0 + 32) m.size = q) (e4 : m.extract (at0 + 32) m.size = q) (e5 : x.extract at0 (at0 + 32) = s)
    (hy : m.size ≤ y.size) (hy2 : y.extract 0 m.size = m) (w : World) :
    Calls Try.prog 4 #[.string m0, .int .u64 (at0 : Nat), W4 a, W4 off, W4 n] w fun e w' => e = .returned (.bool true) ∧ Below w.heap.size w w' := by
  have i1 : (m.size : Int) ≤ 10000 := by omega
  have i2 : (32 : Int) ≤ (m.size : Int) := by omega
  have i3 : (at0 : Int) + 32 ≤ (m.size : Int) := by omega
  have i4 : (at0 : Int) ≤ (m.size : Int) - 32 := by omega
  have i5 : ((at0 : Int) + 32).toNat = at0 + 32 := by omega
  have i8 : (0 : Int) ≤ (at0 : Int) + 32 := by omega
  have i9 : (at0 : Int) ≤ (at0 : Int) + 32 := by omega
  have i6 : (at0 : Int) ≤ (m.size : Int) := by omega
  have i7 : (m.size : Int) ≤ (y.size : Int) := by omega
  go_enter Try.func4, Try.ntmps4
  go_wp2_with (first | (go_at_call 8; with_reducible refine (cS _).mono ?_; rintro e wa ⟨rfl, hb_wa⟩; have hc_wa := (bcell hb_wa).1; have hf_wa := (bcell hb_wa).2; have hz_wa : _ ≤ wa.heap.size := hb_wa.size; (try simp only [World.size_alloc, World.heap_drewN, World.size_setCell, heap_drew] at hc_wa hf_wa hz_wa); have hz_wa_w_0 : w.heap.size < wa.heap.size := (by omega); have hz_wa_w_1 : w.heap.size + 1 < wa.heap.size := (by omega); have hz_wa_w_2 : w.heap.size + 1 + 1 < wa.heap.size := (by omega)) | (go_at_call 9; with_reducible refine (cC _).mono ?_; rintro e _ ⟨rfl, hww⟩; obtain rfl := hww.symm) | (go_at_call 13; with_reducible refine (cT _).mono ?_; rintro e wb ⟨rfl, hb_wb⟩; have hc_wb := (bcell hb_wb).1; have hf_wb := (bcell hb_wb).2; have hz_wb : _ ≤ wb.heap.size := hb_wb.size; (try simp only [World.size_alloc, World.heap_drewN, World.size_setCell, heap_drew] at hc_wb hf_wb hz_wb); have hz_wb_w_0 : w.heap.size < wb.heap.size := (by omega); have hz_wb_w_1 : w.heap.size + 1 < wb.heap.size := (by omega); have hz_wb_w_2 : w.heap.size + 1 + 1 < wb.heap.size := (by omega)) | (go_at_call 14; with_reducible refine (cL _).mono ?_; rintro e wc ⟨rfl, hb_wc⟩; have hc_wc := (bcell hb_wc).1; have hf_wc := (bcell hb_wc).2; have hz_wc : _ ≤ wc.heap.size := hb_wc.size; (try simp only [World.size_alloc, World.heap_drewN, World.size_setCell, heap_drew] at hc_wc hf_wc hz_wc); have hz_wc_w_0 : w.heap.size < wc.heap.size := (by omega); have hz_wc_w_1 : w.heap.size + 1 < wc.heap.size := (by omega); have hz_wc_w_2 : w.heap.size + 1 + 1 < wc.heap.size := (by omega)))
  refine wp_flow (fun k => ([1, 1, 1, 1, 1, 1, 1, 1, 1, 1, 1, 1, 1, 1, 1, 1, 1, 1, 1, 1, 1, 1, 1, 1, 1, 1, 1, 1] : List Nat).getD k 1) (Below (wc.heap.size + 1)) _ (Below.drew (Below.refl _ _)) (by kernel_rfl) (by kernel_rfl) ?_
  (refine flow_quiet rfl rfl (fun K hK => ?_); apply Exists.intro; apply And.intro; (focus (intro w' hw'; have hc := (bcell hw').1; go_simp; (try go_bits); all_goals (first | exact rfl | exact ⟨rfl, hw'⟩))); go_simp; (try go_bits); refine hK _ ?_; clear hK K)
  (refine flow_quiet rfl rfl (fun K hK => ?_); apply Exists.intro; apply And.intro; (focus (intro w' hw'; have hc := (bcell hw').1; go_simp; (try go_bits); all_goals (first | exact rfl | exact ⟨rfl, hw'⟩))); go_simp; (try go_bits); refine hK _ ?_; clear hK K)
  (refine flow_quiet rfl rfl (fun K hK => ?_); apply Exists.intro; apply And.intro; (focus (intro w' hw'; have hc := (bcell hw').1; go_simp; (try go_bits); all_goals (first | exact rfl | exact ⟨rfl, hw'⟩))); go_simp; (try go_bits); refine hK _ ?_; clear hK K)
  (refine flow_quiet rfl rfl (fun K hK => ?_); apply Exists.intro; apply And.intro; (focus (intro w' hw'; have hc := (bcell hw').1; go_simp; (try go_bits); all_goals (first | exact rfl | exact ⟨rfl, hw'⟩))); go_simp; (try go_bits); refine hK _ ?_; clear hK K)
  (refine flow_quiet rfl rfl (fun K hK => ?_); apply Exists.intro; apply And.intro; (focus (intro w' hw'; have hc := (bcell hw').1; go_simp; (try go_bits); all_goals (first | exact rfl | exact ⟨rfl, hw'⟩))); go_simp; (try go_bits); refine hK _ ?_; clear hK K)
  (refine flow_quiet rfl rfl (fun K hK => ?_); apply Exists.intro; apply And.intro; (focus (intro w' hw'; have hc := (bcell hw').1; go_simp; (try go_bits); all_goals (first | exact rfl | exact ⟨rfl, hw'⟩))); go_simp; (try go_bits); refine hK _ ?_; clear hK K)
  (refine flow_quiet rfl rfl (fun K hK => ?_); apply Exists.intro; apply And.intro; (focus (intro w' hw'; have hc := (bcell hw').1; go_simp; (try go_bits); all_goals (first | exact rfl | exact ⟨rfl, hw'⟩))); go_simp; (try go_bits); refine hK _ ?_; clear hK K)
  (refine flow_quiet rfl rfl (fun K hK => ?_); apply Exists.intro; apply And.intro; (focus (intro w' hw'; have hc := (bcell hw').1; go_simp; (try go_bits); all_goals (first | exact rfl | exact ⟨rfl, hw'⟩))); go_simp; (try go_bits); refine hK _ ?_; clear hK K)
  first | (refine flow_skip rfl (fun K hK => ?_); go_simp; (try go_bits); refine hK _ ?_; clear hK K) | (refine flow_quiet rfl rfl (fun K hK => ?_); apply Exists.intro; apply And.intro; (focus (intro w' hw'; have hc := (bcell hw').1; go_simp; (try go_bits); all_goals (first | exact rfl | exact ⟨rfl, hw'⟩))); go_simp; (try go_bits); refine hK _ ?_; clear hK K)
  first | (refine flow_skip rfl (fun K hK => ?_); go_simp; (try go_bits); refine hK _ ?_; clear hK K) | (refine flow_quiet rfl rfl (fun K hK => ?_); apply Exists.intro; apply And.intro; (focus (intro w' hw'; have hc := (bcell hw').1; go_simp; (try go_bits); all_goals (first | exact rfl | exact ⟨rfl, hw'⟩))); go_simp; (try go_bits); refine hK _ ?_; clear hK K)
  first | (refine flow_skip rfl (fun K hK => ?_); go_simp; (try go_bits); refine hK _ ?_; clear hK K) | (refine flow_quiet rfl rfl (fun K hK => ?_); apply Exists.intro; apply And.intro; (focus (intro w' hw'; have hc := (bcell hw').1; go_simp; (try go_bits); all_goals (first | exact rfl | exact ⟨rfl, hw'⟩))); go_simp; (try go_bits); refine hK _ ?_; clear hK K)
  first | (refine flow_skip rfl (fun K hK => ?_); go_simp; (try go_bits); refine hK _ ?_; clear hK K) | (refine flow_quiet rfl rfl (fun K hK => ?_); apply Exists.intro; apply And.intro; (focus (intro w' hw'; have hc := (bcell hw').1; go_simp; (try go_bits); all_goals (first | exact rfl | exact ⟨rfl, hw'⟩))); go_simp; (try go_bits); refine hK _ ?_; clear hK K)
  first | (refine flow_skip rfl (fun K hK => ?_); go_simp; (try go_bits); refine hK _ ?_; clear hK K) | (refine flow_quiet rfl rfl (fun K hK => ?_); apply Exists.intro; apply And.intro; (focus (intro w' hw'; have hc := (bcell hw').1; go_simp; (try go_bits); all_goals (first | exact rfl | exact ⟨rfl, hw'⟩))); go_simp; (try go_bits); refine hK _ ?_; clear hK K)
  first | (refine flow_skip rfl (fun K hK => ?_); go_simp; (try go_bits); refine hK _ ?_; clear hK K) | (refine flow_quiet rfl rfl (fun K hK => ?_); apply Exists.intro; apply And.intro; (focus (intro w' hw'; have hc := (bcell hw').1; go_simp; (try go_bits); all_goals (first | exact rfl | exact ⟨rfl, hw'⟩))); go_simp; (try go_bits); refine hK _ ?_; clear hK K)
  first | (refine flow_skip rfl (fun K hK => ?_); go_simp; (try go_bits); refine hK _ ?_; clear hK K) | (refine flow_quiet rfl rfl (fun K hK => ?_); apply Exists.intro; apply And.intro; (focus (intro w' hw'; have hc := (bcell hw').1; go_simp; (try go_bits); all_goals (first | exact rfl | exact ⟨rfl, hw'⟩))); go_simp; (try go_bits); refine hK _ ?_; clear hK K)
  first | (refine flow_skip rfl (fun K hK => ?_); go_simp; (try go_bits); refine hK _ ?_; clear hK K) | (refine flow_quiet rfl rfl (fun K hK => ?_); apply Exists.intro; apply And.intro; (focus (intro w' hw'; have hc := (bcell hw').1; go_simp; (try go_bits); all_goals (first | exact rfl | exact ⟨rfl, hw'⟩))); go_simp; (try go_bits); refine hK _ ?_; clear hK K)
  first | (refine flow_skip rfl (fun K hK => ?_); go_simp; (try go_bits); refine hK _ ?_; clear hK K) | (refine flow_quiet rfl rfl (fun K hK => ?_); apply Exists.intro; apply And.intro; (focus (intro w' hw'; have hc := (bcell hw').1; go_simp; (try go_bits); all_goals (first | exact rfl | exact ⟨rfl, hw'⟩))); go_simp; (try go_bits); refine hK _ ?_; clear hK K)
  (refine flow_quiet rfl rfl (fun K hK => ?_); apply Exists.intro; apply And.intro; (focus (intro w' hw'; have hc := (bcell hw').1; go_simp; (try go_bits); all_goals (first | exact rfl | exact ⟨rfl, hw'⟩))); go_simp; (try go_bits); refine hK _ ?_; clear hK K)
  (refine flow_quiet rfl rfl (fun K hK => ?_); apply Exists.intro; apply And.intro; (focus (intro w' hw'; have hc := (bcell hw').1; go_simp; (try go_bits); all_goals (first | exact rfl | exact ⟨rfl, hw'⟩))); go_simp; (try go_bits); refine hK _ ?_; clear hK K)
  first | (refine flow_skip rfl (fun K hK => ?_); go_simp; (try go_bits); refine hK _ ?_; clear hK K) | (refine flow_quiet rfl rfl (fun K hK => ?_); apply Exists.intro; apply And.intro; (focus (intro w' hw'; have hc := (bcell hw').1; go_simp; (try go_bits); all_goals (first | exact rfl | exact ⟨rfl, hw'⟩))); go_simp; (try go_bits); refine hK _ ?_; clear hK K)
  first | (refine flow_skip rfl (fun K hK => ?_); go_simp; (try go_bits); refine hK _ ?_; clear hK K) | (refine flow_quiet rfl rfl (fun K hK => ?_); apply Exists.intro; apply And.intro; (focus (intro w' hw'; have hc := (bcell hw').1; go_simp; (try go_bits); all_goals (go_at_call 15; with_reducible refine (cB _).mono ?_; rintro e w2 ⟨rfl, hb⟩; exact ⟨rfl, hw'.trans (hb.mono (below_le hw' (by simp)))⟩))); go_simp; (try go_bits); refine hK _ ?_; clear hK K) | (refine flow_quiet rfl rfl (fun K hK => ?_); apply Exists.intro; apply And.intro; (focus (intro w' hw'; have hc := (bcell hw').1; go_simp; (try go_bits); all_goals (go_at_call 15; refine (cB _).mono ?_; rintro e w2 ⟨rfl, hb⟩; exact ⟨rfl, hw'.trans (hb.mono (below_le hw' (by simp)))⟩))); go_simp; (try go_bits); refine hK _ ?_; clear hK K)
  first | (refine flow_skip rfl (fun K hK => ?_); go_simp; (try go_bits); refine hK _ ?_; clear hK K) | (refine flow_quiet rfl rfl (fun K hK => ?_); apply Exists.intro; apply And.intro; (focus (intro w' hw'; have hc := (bcell hw').1; go_simp; (try go_bits); all_goals (first | exact rfl | exact ⟨rfl, hw'⟩))); go_simp; (try go_bits); refine hK _ ?_; clear hK K)
  first | (refine flow_skip rfl (fun K hK => ?_); go_simp; (try go_bits); refine hK _ ?_; clear hK K) | (refine flow_quiet rfl rfl (fun K hK => ?_); apply Exists.intro; apply And.intro; (focus (intro w' hw'; have hc := (bcell hw').1; go_simp; (try go_bits); all_goals (first | exact rfl | exact ⟨rfl, hw'⟩))); go_simp; (try go_bits); refine hK _ ?_; clear hK K)
  first | (refine flow_skip rfl (fun K hK => ?_); go_simp; (try go_bits); refine hK _ ?_; clear hK K) | (refine flow_quiet rfl rfl (fun K hK => ?_); apply Exists.intro; apply And.intro; (focus (intro w' hw'; have hc := (bcell hw').1; go_simp; (try go_bits); all_goals (first | exact rfl | exact ⟨rfl, hw'⟩))); go_simp; (try go_bits); refine hK _ ?_; clear hK K)
  first | (refine flow_skip rfl (fun K hK => ?_); go_simp; (try go_bits); refine hK _ ?_; clear hK K) | (refine flow_quiet rfl rfl (fun K hK => ?_); apply Exists.intro; apply And.intro; (focus (intro w' hw'; have hc := (bcell hw').1; go_simp; (try go_bits); all_goals (first | exact rfl | exact ⟨rfl, hw'⟩))); go_simp; (try go_bits); refine hK _ ?_; clear hK K)
  first | (refine flow_skip rfl (fun K hK => ?_); go_simp; (try go_bits); refine hK _ ?_; clear hK K) | (refine flow_quiet rfl rfl (fun K hK => ?_); apply Exists.intro; apply And.intro; (focus (intro w' hw'; have hc := (bcell hw').1; go_simp; (try go_bits); all_goals (first | exact rfl | exact ⟨rfl, hw'⟩))); go_simp; (try go_bits); refine hK _ ?_; clear hK K)
  first | (refine flow_skip rfl (fun K hK => ?_); go_simp; (try go_bits); refine hK _ ?_; clear hK K) | (refine flow_quiet rfl rfl (fun K hK => ?_); apply Exists.intro; apply And.intro; (focus (intro w' hw'; have hc := (bcell hw').1; go_simp; (try go_bits); all_goals (first | exact rfl | exact ⟨rfl, hw'⟩))); go_simp; (try go_bits); refine hK _ ?_; clear hK K)
  (refine flow_quiet rfl rfl (fun K hK => ?_); apply Exists.intro; apply And.intro; (focus (intro w' hw'; have hc := (bcell hw').1; go_simp; (try go_bits); all_goals (first | exact rfl | exact ⟨rfl, hw'⟩))); go_simp; (try go_bits); refine hK _ ?_; clear hK K)
  refine flow_nil ?_
  intro w' hw'
  have hc_w' := (bcell hw').1; have hf_w' := (bcell hw').2; have hz_w' : _ ≤ w'.heap.size := hw'.size; (try simp only [World.size_alloc, World.heap_drewN, World.size_setCell, heap_drew] at hc_w' hf_w' hz_w'); have hz_w'_w_0 : w.heap.size < w'.heap.size := (by omega); have hz_w'_w_1 : w.heap.size + 1 < w'.heap.size := (by omega); have hz_w'_w_2 : w.heap.size + 1 + 1 < w'.heap.size := (by omega); have hz_w'_wc_0 : wc.heap.size < w'.heap.size := (by omega)
  go_wp2_with (first | (go_at_call 10; with_reducible refine (cN _).mono ?_; rintro e we ⟨rfl, hb_we⟩; have hc_we := (bcell hb_we).1; have hf_we := (bcell hb_we).2; have hz_we : _ ≤ we.heap.size := hb_we.size; (try simp only [World.size_alloc, World.heap_drewN, World.size_setCell, heap_drew] at hc_we hf_we hz_we); have hz_we_w_0 : w.heap.size < we.heap.size := (by omega); have hz_we_w_1 : w.heap.size + 1 < we.heap.size := (by omega); have hz_we_w_2 : w.heap.size + 1 + 1 < we.heap.size := (by omega); have hz_we_wc_0 : wc.heap.size < we.heap.size := (by omega)) | (go_at_call 10; with_reducible refine (cY _).mono ?_; rintro e wf ⟨rfl, hb_wf⟩; have hc_wf := (bcell hb_wf).1; have hf_wf := (bcell hb_wf).2; have hz_wf : _ ≤ wf.heap.size := hb_wf.size; (try simp only [World.size_alloc, World.heap_drewN, World.size_setCell, heap_drew] at hc_wf hf_wf hz_wf); have hz_wf_w_0 : w.heap.size < wf.heap.size := (by omega); have hz_wf_w_1 : w.heap.size + 1 < wf.heap.size := (by omega); have hz_wf_w_2 : w.heap.size + 1 + 1 < wf.heap.size := (by omega); have hz_wf_wc_0 : wc.heap.size < wf.heap.size := (by omega)))
  go_ret
  refine ⟨rfl, ?_⟩
  repeat (with_reducible first | exact Below.refl _ _ | assumption | refine below_drewN ?_ _ | refine Below.drew ?_ | refine Below.setCell ?_ (by first | omega | (simp; done) | (simp; omega)) _ | refine Below.alloc ?_ (by first | omega | (simp; done) | (simp; omega)) _ | refine Below.trans ?_ (Below.mono (by assumption) (by first | omega | (simp; done) | (simp; omega))))

set_option maxRecDepth 100000 in
set_option maxHeartbeats 16000000 in
theorem walkOut (m0 m y : ByteArray) (at0 a off n g : Nat) (ok : Bool)
    (cS : ∀ W, Calls Try.prog 8 #[] W fun e w' => e = .returned (.bool true) ∧ Below W.heap.size W w')
    (cC : ∀ W, Calls Try.prog 9 #[.string m0] W fun e w' => e = .returned (.string m) ∧ w' = W)
    (cT : ∀ W, Calls Try.prog 13 #[.string m, .int .u64 (at0 : Nat), W4 a] W fun e w' => e = .returned (.tuple #[.string ⟨#[]⟩, .int .i64 2]) ∧ Below W.heap.size W w')
    (cN : ∀ W, Calls Try.prog 10 #[.string m, W4 off, W4 n] W fun e w' => e = .returned (.tuple #[.string y, .int .u64 (g : Nat), .bool ok]) ∧ Below W.heap.size W w')
    (cY : ∀ W, Calls Try.prog 10 #[.string y, W4 off, W4 n] W fun e w' => e = .returned (.tuple #[.string y, .int .u64 0, .bool ok]) ∧ Below W.heap.size W w')
    (hm : m.size ≤ 10000) (hy : m.size ≤ y.size) (hy2 : y.extract 0 m.size = m) (w : World) :
    Calls Try.prog 4 #[.string m0, .int .u64 (at0 : Nat), W4 a, W4 off, W4 n] w fun e w' => e = .returned (.bool true) ∧ Below w.heap.size w w' := by
  have i1 : (m.size : Int) ≤ 10000 := by omega
  have i7 : (m.size : Int) ≤ (y.size : Int) := by omega
  go_enter Try.func4, Try.ntmps4
  go_wp2_with (first | (go_at_call 8; with_reducible refine (cS _).mono ?_; rintro e wa ⟨rfl, hb_wa⟩; have hc_wa := (bcell hb_wa).1; have hf_wa := (bcell hb_wa).2; have hz_wa : _ ≤ wa.heap.size := hb_wa.size; (try simp only [World.size_alloc, World.heap_drewN, World.size_setCell, heap_drew] at hc_wa hf_wa hz_wa); have hz_wa_w_0 : w.heap.size < wa.heap.size := (by omega); have hz_wa_w_1 : w.heap.size + 1 < wa.heap.size := (by omega); have hz_wa_w_2 : w.heap.size + 1 + 1 < wa.heap.size := (by omega)) | (go_at_call 9; with_reducible refine (cC _).mono ?_; rintro e _ ⟨rfl, hww⟩; obtain rfl := hww.symm) | (go_at_call 13; with_reducible refine (cT _).mono ?_; rintro e wb ⟨rfl, hb_wb⟩; have hc_wb := (bcell hb_wb).1; have hf_wb := (bcell hb_wb).2; have hz_wb : _ ≤ wb.heap.size := hb_wb.size; (try simp only [World.size_alloc, World.heap_drewN, World.size_setCell, heap_drew] at hc_wb hf_wb hz_wb); have hz_wb_w_0 : w.heap.size < wb.heap.size := (by omega); have hz_wb_w_1 : w.heap.size + 1 < wb.heap.size := (by omega); have hz_wb_w_2 : w.heap.size + 1 + 1 < wb.heap.size := (by omega)) | (go_at_call 10; with_reducible refine (cN _).mono ?_; rintro e we ⟨rfl, hb_we⟩; have hc_we := (bcell hb_we).1; have hf_we := (bcell hb_we).2; have hz_we : _ ≤ we.heap.size := hb_we.size; (try simp only [World.size_alloc, World.heap_drewN, World.size_setCell, heap_drew] at hc_we hf_we hz_we); have hz_we_w_0 : w.heap.size < we.heap.size := (by omega); have hz_we_w_1 : w.heap.size + 1 < we.heap.size := (by omega); have hz_we_w_2 : w.heap.size + 1 + 1 < we.heap.size := (by omega)) | (go_at_call 10; with_reducible refine (cY _).mono ?_; rintro e wf ⟨rfl, hb_wf⟩; have hc_wf := (bcell hb_wf).1; have hf_wf := (bcell hb_wf).2; have hz_wf : _ ≤ wf.heap.size := hb_wf.size; (try simp only [World.size_alloc, World.heap_drewN, World.size_setCell, heap_drew] at hc_wf hf_wf hz_wf); have hz_wf_w_0 : w.heap.size < wf.heap.size := (by omega); have hz_wf_w_1 : w.heap.size + 1 < wf.heap.size := (by omega); have hz_wf_w_2 : w.heap.size + 1 + 1 < wf.heap.size := (by omega)))
  go_ret
  refine ⟨rfl, ?_⟩
  repeat (with_reducible first | exact Below.refl _ _ | assumption | refine below_drewN ?_ _ | refine Below.drew ?_ | refine Below.setCell ?_ (by first | omega | (simp; done) | (simp; omega)) _ | refine Below.alloc ?_ (by first | omega | (simp; done) | (simp; omega)) _ | refine Below.trans ?_ (Below.mono (by assumption) (by first | omega | (simp; done) | (simp; omega))))

theorem putS_head {m s : ByteArray} {off : Nat} (h : off + s.size ≤ m.size) : (putS m off s).extract 0 off = m.extract 0 off := by
  have hz := putS_size h
  refine bytes_ext (by rw [ByteArray.size_extract, ByteArray.size_extract, hz]) fun k hk => ?_
  rw [ByteArray.size_extract, hz] at hk
  rw [byteD_extract _ _ _ _ (by omega) (by omega), byteD_extract _ _ _ _ (by omega) (by omega), putS_byte h (by omega), if_neg (by omega)]
theorem putS_tail {m s : ByteArray} {off : Nat} (h : off + s.size ≤ m.size) : (putS m off s).extract (off + s.size) m.size = m.extract (off + s.size) m.size := by
  have hz := putS_size h
  refine bytes_ext (by rw [ByteArray.size_extract, ByteArray.size_extract, hz]) fun k hk => ?_
  rw [ByteArray.size_extract, hz] at hk
  rw [byteD_extract _ _ _ _ (by omega) (by omega), byteD_extract _ _ _ _ (by omega) (by omega), putS_byte h (by omega), if_neg (by omega)]
theorem putS_mid {m s : ByteArray} {off : Nat} (h : off + s.size ≤ m.size) : (putS m off s).extract off (off + s.size) = s := by
  have hz := putS_size h
  refine bytes_ext (by rw [ByteArray.size_extract, hz]; omega) fun k hk => ?_
  rw [ByteArray.size_extract, hz] at hk
  rw [byteD_extract _ _ _ _ (by omega) (by omega), putS_byte h (by omega), if_pos (by omega)]
  congr 1
  omega

theorem need_twice (m : ByteArray) (off n : Nat) : needM (needM m off n) off n = needM m off n := by
  by_cases h : n ≠ 0 ∧ off + n ≤ 65536 ∧ m.size < needE off n
  · have hz := needM_size h
    exact needM_same (by omega)
  · rw [needM_same h, needM_same h]
theorem need_le {m : ByteArray} {off n : Nat} : m.size ≤ (needM m off n).size ∧ (needM m off n).extract 0 m.size = m := by
  by_cases h : n ≠ 0 ∧ off + n ≤ 65536 ∧ m.size < needE off n
  · have hz := needM_size h
    refine ⟨by omega, ?_⟩
    have hz2 := hz
    rw [needM_more h] at hz2 ⊢
    refine bytes_ext (by rw [ByteArray.size_extract, hz2]; omega) fun k hk => ?_
    rw [ByteArray.size_extract, hz2] at hk
    rw [byteD_extract _ _ _ _ (by omega) (by omega), byteD_append, if_pos (by omega), Nat.zero_add]
  · rw [needM_same h]
    exact ⟨Nat.le_refl _, ByteArray.extract_zero_size⟩

set_option maxHeartbeats 4000000 in
theorem walk (m0 : ByteArray) (x : Int) (a off n : Nat) (hm : m0.size ≤ maxLen) (hx : (Lit.int .u64 x).wf = true) (ha : a < Q256) (ho : off < Q256) (hn : n < Q256) (w : World) :
    Calls Try.prog 4 #[.string m0, .int .u64 x, W4 a, W4 off, W4 n] w fun e w' => e = .returned (.bool true) ∧ Below w.heap.size w w' := by
  obtain ⟨x, rfl, hxl⟩ := nat_of_wf hx
  have hmax : maxLen = 9223372036854775807 := rfl
  have h1 : (m0.extract 0 (min m0.size 10000)).size = min m0.size 10000 := by rw [ByteArray.size_extract]; omega
  have h2 : (m0.extract 0 (min m0.size 10000)).size ≤ 10000 := by omega
  have cC := fun W => cut_any m0 W
  generalize m0.extract 0 (min m0.size 10000) = m at *
  clear h1
  have cN := fun W => Need_any m off n (by omega) ho hn W
  obtain ⟨g1, g2⟩ := need_le (m := m) (off := off) (n := n)
  have g3 : (needM m off n).size ≤ 100000 := by
    by_cases h : n ≠ 0 ∧ off + n ≤ 65536 ∧ m.size < needE off n
    · have := needE_le h.2.1
      rw [needM_size h]
      omega
    · rw [needM_same h]
      omega
  have cY := fun W => Need_any (needM m off n) off n g3 ho hn W
  rw [need_twice, Nat.sub_self] at cY
  have cT := fun W => Store_any m x a (by omega) hxl ha W
  have hz := bytesS_size a
  by_cases h : x + 32 ≤ m.size
  · rw [show storeS m x a = putS m x (bytesS a) from if_pos h, show fitE m x 32 = 0 from if_pos h] at cT
    have hf : x + (bytesS a).size ≤ m.size := by omega
    have p1 := putS_size hf
    have p2 := putS_head hf
    have p3 := putS_tail hf
    have p4 := putS_mid hf
    rw [hz] at p3 p4
    have cL := fun W => Load_any (putS m x (bytesS a)) x (by omega) hxl W
    have hs : sliceS (putS m x (bytesS a)) x 32 = bytesS a := by
      unfold sliceS
      rw [if_pos (by omega), p4]
    rw [show sliceE (putS m x (bytesS a)) x 32 = 0 from if_pos (by omega), show loadW (putS m x (bytesS a)) x = a by unfold loadW; rw [hs, from_bytes ha]] at cL
    exact walkIn m0 m (putS m x (bytesS a)) (needM m off n) (m.extract 0 x) (m.extract (x + 32) m.size) (bytesS a) x a off n _ (needB off n) shown_any cC cT cL (fun W => Bytes_any a ha W) cN cY h2 p1 h p2 rfl p3 rfl p4 g1 g2 w
  · rw [show storeS m x a = ⟨#[]⟩ from if_neg h, show fitE m x 32 = 2 from if_neg h] at cT
    exact walkOut m0 m (needM m off n) x a off n _ (needB off n) shown_any cC cT cN cY h2 g1 g2 w

set_option maxRecDepth 100000 in
theorem lifted (os : Os) (started : os.Started) (H : Type) (enc : TypeId × Value → H) :
    ReturnsInHanded {} Try.checked os 4 .any (Rows.memoBackSpec.pre6 enc Try.prog Try.f4 Rows.memoBackRow.domain false) (Rows.memoBackSpec.post enc Try.prog Try.f4 false true false false) := by
  refine returnsInHanded_of_change (C := Try.checked) own started (by kernel_rfl) Try.func4
    (ChangeSpec.witness6 (enc := enc) (C := Try.checked) false ⟨#[], #[.string ⟨#[]⟩, .int .u64 0, .agg #[.int .u64 0, .int .u64 0, .int .u64 0, .int .u64 0], .agg #[.int .u64 0, .int .u64 0, .int .u64 0, .int .u64 0], .agg #[.int .u64 0, .int .u64 0, .int .u64 0, .int .u64 0]], []⟩ 8 (by kernel_rfl) (by kernel_rfl) (by kernel_rfl) (by kernel_rfl)) ?_
  intro W base args ds gs before hval0 hW hcnd _
  have hval : ∀ (j : Nat) t v, Try.f4.params[j]? = some t → args[j]? = some v → Value.okWide Try.prog W .any base t v := hval0
  have hW' := hW
  obtain ⟨p, q, hA0, hV, rfl, hfz, hnd⟩ := hW
  have hA : DataW.TrodAll enc Try.prog W 0 (fun _ => true) true Try.f4.params.toList args.toList ds p := hA0
  rw [Try.params4] at hA hval
  obtain ⟨v0, vs0, d0, ds0, p0, q0, hargs, rfl, rfl, h0, r0⟩ := trodAll_cons hA
  obtain ⟨v1, vs1, d1, ds1, p1, q1, rfl, rfl, rfl, h1, r1⟩ := trodAll_cons r0
  obtain ⟨v2, vs2, d2, ds2, p2, q2, rfl, rfl, rfl, h2, r2⟩ := trodAll_cons r1
  obtain ⟨v3, vs3, d3, ds3, p3, q3, rfl, rfl, rfl, h3, r3⟩ := trodAll_cons r2
  obtain ⟨v4, vs4, d4, ds4, p4, q4, rfl, rfl, rfl, h4, r4⟩ := trodAll_cons r3
  obtain ⟨rfl, rfl, rfl⟩ := trodAll_nil r4
  obtain rfl : args = #[v0, v1, v2, v3, v4] := by cases args; simp_all
  obtain ⟨rfl, rfl⟩ := trodVars_none hV
  have k0 := h0
  have lt0 : ∀ x ∈ p0, x.block < W.heap.size := by obtain ⟨m, hm⟩ := k0; exact DataW.trod_lt m _ _ _ hm
  obtain ⟨a0, rfl, _, _, w0⟩ := open_string Try.underlying9 (hval 0 9 v0 rfl rfl) h0
  have k1 := h1
  have lt1 : ∀ x ∈ p1, x.block < W.heap.size := by obtain ⟨m, hm⟩ := k1; exact DataW.trod_lt m _ _ _ hm
  obtain ⟨a1, rfl, _, _, w1⟩ := open_int Try.underlying22 (hval 1 22 v1 rfl rfl) h1
  have k2 := h2
  have lt2 : ∀ x ∈ p2, x.block < W.heap.size := by obtain ⟨m, hm⟩ := k2; exact DataW.trod_lt m _ _ _ hm
  obtain ⟨a2, w2, rfl⟩ := open_word (hval 2 24 v2 rfl rfl) h2
  have k3 := h3
  have lt3 : ∀ x ∈ p3, x.block < W.heap.size := by obtain ⟨m, hm⟩ := k3; exact DataW.trod_lt m _ _ _ hm
  obtain ⟨a3, w3, rfl⟩ := open_word (hval 3 24 v3 rfl rfl) h3
  have k4 := h4
  have lt4 : ∀ x ∈ p4, x.block < W.heap.size := by obtain ⟨m, hm⟩ := k4; exact DataW.trod_lt m _ _ _ hm
  obtain ⟨a4, w4, rfl⟩ := open_word (hval 4 24 v4 rfl rfl) h4
  clear hA0 hval0
  refine (walk a0 a1 a2 a3 a4 w0 w1 w2 w3 w4 W).mono fun e W' ⟨he, bel⟩ => ?_
  subst he
  exact ⟨_, rfl, _, _, _, [], _, [], hW', trodAll_mk1 (shut_bool Try.underlying4 _), (trodAll_cons_mk (Below.trod laidOut (by kernel_rfl) (of_decide_eq_true (by kernel_rfl)) k0 bel lt0) (trodAll_cons_mk (Below.trod laidOut (by kernel_rfl) (of_decide_eq_true (by kernel_rfl)) k1 bel lt1) (trodAll_cons_mk (Below.trod laidOut (by kernel_rfl) (of_decide_eq_true (by kernel_rfl)) k2 bel lt2) (trodAll_cons_mk (Below.trod laidOut (by kernel_rfl) (of_decide_eq_true (by kernel_rfl)) k3 bel lt3) (trodAll_cons_mk (Below.trod laidOut (by kernel_rfl) (of_decide_eq_true (by kernel_rfl)) k4 bel lt4) trodAll_mk0))))), rfl, bel.frame _, fun h => by cases h⟩

theorem over : Rows.memoBackRow.holds Try.pinned (OpenSpec.ofChange Rows.memoBackSpec) :=
  OpenClaim.holds_of_wide 4 Try.f4 rfl rfl rfl rfl rfl rfl rfl ⟨rfl, rfl, rfl, rfl, rfl⟩ rfl rfl rfl rfl rfl (by kernel_rfl) Try.func4 (by kernel_rfl)
    (of_decide_eq_true (by kernel_rfl)) (by unfold Func.isWrapper; first | (rw [if_pos (by decide +kernel)]; kernel_rfl) | (rw [if_neg (by decide +kernel)]; exact ⟨rfl, rfl⟩))
    (fun os started H enc _ => lifted os started H enc)

theorem proved : Rows.MemoBackSaid := over
end Go.Proofs.Ytbgeenkkdfbngaa.MemoBackDone
