/-
  word.Add, word.Sub, word.Less: what each returns, in numbers below 2^256, taken out of the seat of the word laws. Conditions: none.
-/
import Derived.Test.YtcdjdnbdblpofaaDoorProg
import Derived.Test.YtcdjdnbdblpofaaDoorFlow
import Derived.Test.YtcdjdnbdblpofaaDoorBase
import Derived.WalkKit
import Derived.ProofKit
import Derived.WalkSpells
import Derived.Laws.Externs
import Derived.Lib.Hide
namespace Go.Proofs.YtcdjdnbdblpofaaDoor
open Go.RowKit
attribute [local go_sem] leftBy
set_option linter.unusedSimpArgs false

theorem add64 (x y c : Nat) (ci : Int) (hci : ci = (c : Int)) (hx : x < M64) (hy : y < M64) (hc : c ≤ 1) :
    ∃ s c' : Nat, s < M64 ∧ c' ≤ 1 ∧ Hid (s + M64 * c' = x + y + c) ∧ ∀ w, (callFunc 73 #[.int .u64 x, .int .u64 y, .int .u64 ci]).run Tryd.prog w =
      .ok (.value (.tuple #[.int .u64 s, .int .u64 c'])) w := by
  subst hci
  unfold M64 at *
  refine ⟨(x + y + c) % 18446744073709551616, (x + y + c) / 18446744073709551616, Nat.mod_lt _ (by decide), by omega, Nat.mod_add_div _ _, fun w => ?_⟩
  rw [run_callFunc_extern Tryd.func73 (by kernel_rfl) (by kernel_rfl) (by kernel_rfl) (e := add64Entry) (by kernel_rfl), run_add64 _ _ _ (by omega) (by omega) (by omega) (by omega)]
  rfl

def sub64Entry : Array Value → Sem Value := fun args => do
  let (x, y, b) ← Extern.MathBitsCarry.three "Sub64" args
  pure (Extern.MathBitsCarry.pair ((x + Extern.MathBitsCarry.m64 - y - b) % Extern.MathBitsCarry.m64) (if x < y + b then 1 else 0))

theorem run_sub64 {P : Program} (x y b : Nat) (hb : b ≤ 1) (w : World) :
    (sub64Entry #[.int .u64 x, .int .u64 y, .int .u64 b]).run P w =
      .ok (.tuple #[.int .u64 (((x + 18446744073709551616 - y - b) % 18446744073709551616 : Nat) : Int), .int .u64 ((if x < y + b then 1 else 0 : Nat) : Int)]) w := by
  have : b = 0 ∨ b = 1 := by omega
  rcases this with rfl | rfl <;> rfl

theorem sub64 (x y c : Nat) (ci : Int) (hci : ci = (c : Int)) (hx : x < M64) (hy : y < M64) (hc : c ≤ 1) :
    ∃ s c' : Nat, s < M64 ∧ c' ≤ 1 ∧ Hid (s + y + c = x + M64 * c') ∧ ∀ w, (callFunc 70 #[.int .u64 x, .int .u64 y, .int .u64 ci]).run Tryd.prog w =
      .ok (.value (.tuple #[.int .u64 s, .int .u64 c'])) w := by
  subst hci
  unfold M64 at *
  refine ⟨(x + 18446744073709551616 - y - c) % 18446744073709551616, if x < y + c then 1 else 0, Nat.mod_lt _ (by decide), by split <;> omega, ?_, fun w => ?_⟩
  · show _ = _
    split <;> omega
  rw [run_callFunc_extern Tryd.func70 (by kernel_rfl) (by kernel_rfl) (by kernel_rfl) (e := sub64Entry) (by kernel_rfl), run_sub64 x y c hc]
  rfl


set_option maxRecDepth 100000 in
set_option maxHeartbeats 4000000 in
/-- sum. -/
theorem sum_any (a b : Nat) (ha : a < Q256) (hb : b < Q256) (w : World) :
    Calls Tryd.prog 60 #[W4 a, W4 b] w fun e w' => e = .returned (.tuple #[W4 ((a + b) % Q256), .int .u64 ((a + b) / Q256 : Nat)]) ∧ Below w.heap.size w w' := by
  obtain ⟨s0, c0, hs0, hc0, e0, h0⟩ := add64 (lb a 0) (lb b 0) 0 0 rfl (lb_lt _ _) (lb_lt _ _) (by omega)
  obtain ⟨s1, c1, hs1, hc1, e1, h1⟩ := add64 (lb a 1) (lb b 1) c0 _ rfl (lb_lt _ _) (lb_lt _ _) hc0
  obtain ⟨s2, c2, hs2, hc2, e2, h2⟩ := add64 (lb a 2) (lb b 2) c1 _ rfl (lb_lt _ _) (lb_lt _ _) hc1
  obtain ⟨s3, c3, hs3, hc3, e3, h3⟩ := add64 (lb a 3) (lb b 3) c2 _ rfl (lb_lt _ _) (lb_lt _ _) hc2
  have hv := sum4 ha hb hs0 hs1 hs2 hs3 e0.out e1.out e2.out e3.out
  rw [← W4_eq hs0 hs1 hs2 hs3 hv.1, ← hv.2]
  clear hv
  go_enter Tryd.func60, Tryd.ntmps60
  go_wp2
  refine wp_loop_rounds 5 ?_
  rw [rounds_succ]
  go_wp2
  first | refine wp_flow (fun k => ([1, 1, 1, 1, 1, 1, 1, 1, 1, 1, 1, 0, 1, 2, 1] : List Nat).getD k 1) Dr _ (Dr.next _ _) (by kernel_rfl) (by kernel_rfl) ?_ | refine wp_flow (fun k => ([1, 1, 1, 1, 1, 1, 1, 1, 1, 1, 1, 0, 1, 2, 1] : List Nat).getD k 1) Dr _ (Dr.one _) (by kernel_rfl) (by kernel_rfl) ?_
  iterate 11 ((refine flow_quiet rfl rfl (fun K hK => ?_); apply Exists.intro; apply And.intro; (focus (rintro w' ⟨nn, rfl⟩; go_simp; (try go_bits); exact ⟨rfl, Dr.of _ _⟩)); go_simp; (try go_bits); refine hK _ ?_; clear hK K))
  (refine flow_late rfl rfl (fun K hK => ?_); apply Exists.intro; apply And.intro; (focus (intro w0 w' hlw; clear hlw; go_simp; (try go_bits); exact rfl)); go_simp; (try go_bits); refine hK _ ?_; clear hK K)
  (refine flow_quiet rfl rfl (fun K hK => ?_); apply Exists.intro; apply And.intro; (focus (rintro w' ⟨nn, rfl⟩; go_simp; (try go_bits); exact ⟨rfl, Dr.of _ _⟩)); go_simp; (try go_bits); refine hK _ ?_; clear hK K)
  (refine flow_eff rfl rfl (fun K hK => ?_); apply Exists.intro; apply Exists.intro; apply And.intro; (focus (rintro w' ⟨nn, rfl⟩; go_simp; (try go_bits); refine ⟨rfl, ?_⟩; with_reducible first | exact Dr.store _ _ _ _ | exact Dr.store4 _ _ _ _ _ _ _ _ _ _)); go_simp; (try go_bits); refine hK _ _ ?_; clear hK K)
  (refine flow_quiet rfl rfl (fun K hK => ?_); apply Exists.intro; apply And.intro; (focus (rintro w' ⟨nn, rfl⟩; go_simp; (try go_bits); exact ⟨rfl, Dr.of _ _⟩)); go_simp; (try go_bits); refine hK _ ?_; clear hK K)
  refine flow_nil ?_
  rintro w' ⟨nq, rfl⟩
  go_wp2
  rw [rounds_succ]
  go_wp2
  first | refine wp_flow (fun k => ([1, 1, 1, 1, 1, 1, 1, 1, 1, 1, 1, 0, 1, 2, 1] : List Nat).getD k 1) Dr _ (Dr.next _ _) (by kernel_rfl) (by kernel_rfl) ?_ | refine wp_flow (fun k => ([1, 1, 1, 1, 1, 1, 1, 1, 1, 1, 1, 0, 1, 2, 1] : List Nat).getD k 1) Dr _ (Dr.one _) (by kernel_rfl) (by kernel_rfl) ?_
  iterate 11 ((refine flow_quiet rfl rfl (fun K hK => ?_); apply Exists.intro; apply And.intro; (focus (rintro w' ⟨nn, rfl⟩; go_simp; (try go_bits); exact ⟨rfl, Dr.of _ _⟩)); go_simp; (try go_bits); refine hK _ ?_; clear hK K))
  (refine flow_late rfl rfl (fun K hK => ?_); apply Exists.intro; apply And.intro; (focus (intro w0 w' hlw; clear hlw; go_simp; (try go_bits); exact rfl)); go_simp; (try go_bits); refine hK _ ?_; clear hK K)
  (refine flow_quiet rfl rfl (fun K hK => ?_); apply Exists.intro; apply And.intro; (focus (rintro w' ⟨nn, rfl⟩; go_simp; (try go_bits); exact ⟨rfl, Dr.of _ _⟩)); go_simp; (try go_bits); refine hK _ ?_; clear hK K)
  (refine flow_eff rfl rfl (fun K hK => ?_); apply Exists.intro; apply Exists.intro; apply And.intro; (focus (rintro w' ⟨nn, rfl⟩; go_simp; (try go_bits); refine ⟨rfl, ?_⟩; with_reducible first | exact Dr.store _ _ _ _ | exact Dr.store4 _ _ _ _ _ _ _ _ _ _)); go_simp; (try go_bits); refine hK _ _ ?_; clear hK K)
  (refine flow_quiet rfl rfl (fun K hK => ?_); apply Exists.intro; apply And.intro; (focus (rintro w' ⟨nn, rfl⟩; go_simp; (try go_bits); exact ⟨rfl, Dr.of _ _⟩)); go_simp; (try go_bits); refine hK _ ?_; clear hK K)
  refine flow_nil ?_
  rintro w' ⟨nq, rfl⟩
  go_wp2
  rw [rounds_succ]
  go_wp2
  first | refine wp_flow (fun k => ([1, 1, 1, 1, 1, 1, 1, 1, 1, 1, 1, 0, 1, 2, 1] : List Nat).getD k 1) Dr _ (Dr.next _ _) (by kernel_rfl) (by kernel_rfl) ?_ | refine wp_flow (fun k => ([1, 1, 1, 1, 1, 1, 1, 1, 1, 1, 1, 0, 1, 2, 1] : List Nat).getD k 1) Dr _ (Dr.one _) (by kernel_rfl) (by kernel_rfl) ?_
  iterate 11 ((refine flow_quiet rfl rfl (fun K hK => ?_); apply Exists.intro; apply And.intro; (focus (rintro w' ⟨nn, rfl⟩; go_simp; (try go_bits); exact ⟨rfl, Dr.of _ _⟩)); go_simp; (try go_bits); refine hK _ ?_; clear hK K))
  (refine flow_late rfl rfl (fun K hK => ?_); apply Exists.intro; apply And.intro; (focus (intro w0 w' hlw; clear hlw; go_simp; (try go_bits); exact rfl)); go_simp; (try go_bits); refine hK _ ?_; clear hK K)
  (refine flow_quiet rfl rfl (fun K hK => ?_); apply Exists.intro; apply And.intro; (focus (rintro w' ⟨nn, rfl⟩; go_simp; (try go_bits); exact ⟨rfl, Dr.of _ _⟩)); go_simp; (try go_bits); refine hK _ ?_; clear hK K)
  (refine flow_eff rfl rfl (fun K hK => ?_); apply Exists.intro; apply Exists.intro; apply And.intro; (focus (rintro w' ⟨nn, rfl⟩; go_simp; (try go_bits); refine ⟨rfl, ?_⟩; with_reducible first | exact Dr.store _ _ _ _ | exact Dr.store4 _ _ _ _ _ _ _ _ _ _)); go_simp; (try go_bits); refine hK _ _ ?_; clear hK K)
  (refine flow_quiet rfl rfl (fun K hK => ?_); apply Exists.intro; apply And.intro; (focus (rintro w' ⟨nn, rfl⟩; go_simp; (try go_bits); exact ⟨rfl, Dr.of _ _⟩)); go_simp; (try go_bits); refine hK _ ?_; clear hK K)
  refine flow_nil ?_
  rintro w' ⟨nq, rfl⟩
  go_wp2
  rw [rounds_succ]
  go_wp2
  first | refine wp_flow (fun k => ([1, 1, 1, 1, 1, 1, 1, 1, 1, 1, 1, 0, 1, 2, 1] : List Nat).getD k 1) Dr _ (Dr.next _ _) (by kernel_rfl) (by kernel_rfl) ?_ | refine wp_flow (fun k => ([1, 1, 1, 1, 1, 1, 1, 1, 1, 1, 1, 0, 1, 2, 1] : List Nat).getD k 1) Dr _ (Dr.one _) (by kernel_rfl) (by kernel_rfl) ?_
  iterate 11 ((refine flow_quiet rfl rfl (fun K hK => ?_); apply Exists.intro; apply And.intro; (focus (rintro w' ⟨nn, rfl⟩; go_simp; (try go_bits); exact ⟨rfl, Dr.of _ _⟩)); go_simp; (try go_bits); refine hK _ ?_; clear hK K))
  (refine flow_late rfl rfl (fun K hK => ?_); apply Exists.intro; apply And.intro; (focus (intro w0 w' hlw; clear hlw; go_simp; (try go_bits); exact rfl)); go_simp; (try go_bits); refine hK _ ?_; clear hK K)
  (refine flow_quiet rfl rfl (fun K hK => ?_); apply Exists.intro; apply And.intro; (focus (rintro w' ⟨nn, rfl⟩; go_simp; (try go_bits); exact ⟨rfl, Dr.of _ _⟩)); go_simp; (try go_bits); refine hK _ ?_; clear hK K)
  (refine flow_eff rfl rfl (fun K hK => ?_); apply Exists.intro; apply Exists.intro; apply And.intro; (focus (rintro w' ⟨nn, rfl⟩; go_simp; (try go_bits); refine ⟨rfl, ?_⟩; with_reducible first | exact Dr.store _ _ _ _ | exact Dr.store4 _ _ _ _ _ _ _ _ _ _)); go_simp; (try go_bits); refine hK _ _ ?_; clear hK K)
  (refine flow_quiet rfl rfl (fun K hK => ?_); apply Exists.intro; apply And.intro; (focus (rintro w' ⟨nn, rfl⟩; go_simp; (try go_bits); exact ⟨rfl, Dr.of _ _⟩)); go_simp; (try go_bits); refine hK _ ?_; clear hK K)
  refine flow_nil ?_
  rintro w' ⟨nq, rfl⟩
  go_wp2
  rw [rounds_succ]
  go_wp2
  refine bodyPost_ret (v := .tuple #[.agg #[.int .u64 s0, .int .u64 s1, .int .u64 s2, .int .u64 s3], .int .u64 c3]) (by simp [results, Tryd.results60, go_sem]) rfl ⟨rfl, ?_⟩
  repeat (first | exact Below.refl _ _ | refine below_drewN ?_ _ | refine Below.drew ?_ | refine Below.setCell ?_ (by simp <;> omega) _ | refine Below.alloc ?_ (by simp <;> omega) _)

set_option maxRecDepth 100000 in
set_option maxHeartbeats 4000000 in
/-- Sub. -/
theorem Sub_any (a b : Nat) (ha : a < Q256) (hb : b < Q256) (w : World) :
    Calls Tryd.prog 54 #[W4 a, W4 b] w fun e w' => e = .returned (W4 ((a + Q256 - b) % Q256)) ∧ Below w.heap.size w w' := by
  obtain ⟨s0, c0, hs0, hc0, e0, h0⟩ := sub64 (lb a 0) (lb b 0) 0 0 rfl (lb_lt _ _) (lb_lt _ _) (by omega)
  obtain ⟨s1, c1, hs1, hc1, e1, h1⟩ := sub64 (lb a 1) (lb b 1) c0 _ rfl (lb_lt _ _) (lb_lt _ _) hc0
  obtain ⟨s2, c2, hs2, hc2, e2, h2⟩ := sub64 (lb a 2) (lb b 2) c1 _ rfl (lb_lt _ _) (lb_lt _ _) hc1
  obtain ⟨s3, c3, hs3, hc3, e3, h3⟩ := sub64 (lb a 3) (lb b 3) c2 _ rfl (lb_lt _ _) (lb_lt _ _) hc2
  have hv := sub4 ha hb hs0 hs1 hs2 hs3 e0.out e1.out e2.out e3.out
  rw [← W4_eq hs0 hs1 hs2 hs3 hv]
  clear hv
  go_enter Tryd.func54, Tryd.ntmps54
  go_wp2
  refine wp_loop_rounds 5 ?_
  rw [rounds_succ]
  go_wp2
  first | refine wp_flow (fun k => ([1, 1, 1, 1, 1, 1, 1, 1, 1, 1, 1, 0, 1, 2, 1] : List Nat).getD k 1) Dr _ (Dr.next _ _) (by kernel_rfl) (by kernel_rfl) ?_ | refine wp_flow (fun k => ([1, 1, 1, 1, 1, 1, 1, 1, 1, 1, 1, 0, 1, 2, 1] : List Nat).getD k 1) Dr _ (Dr.one _) (by kernel_rfl) (by kernel_rfl) ?_
  iterate 11 ((refine flow_quiet rfl rfl (fun K hK => ?_); apply Exists.intro; apply And.intro; (focus (rintro w' ⟨nn, rfl⟩; go_simp; (try go_bits); exact ⟨rfl, Dr.of _ _⟩)); go_simp; (try go_bits); refine hK _ ?_; clear hK K))
  (refine flow_late rfl rfl (fun K hK => ?_); apply Exists.intro; apply And.intro; (focus (intro w0 w' hlw; clear hlw; go_simp; (try go_bits); exact rfl)); go_simp; (try go_bits); refine hK _ ?_; clear hK K)
  (refine flow_quiet rfl rfl (fun K hK => ?_); apply Exists.intro; apply And.intro; (focus (rintro w' ⟨nn, rfl⟩; go_simp; (try go_bits); exact ⟨rfl, Dr.of _ _⟩)); go_simp; (try go_bits); refine hK _ ?_; clear hK K)
  (refine flow_eff rfl rfl (fun K hK => ?_); apply Exists.intro; apply Exists.intro; apply And.intro; (focus (rintro w' ⟨nn, rfl⟩; go_simp; (try go_bits); refine ⟨rfl, ?_⟩; with_reducible first | exact Dr.store _ _ _ _ | exact Dr.store4 _ _ _ _ _ _ _ _ _ _)); go_simp; (try go_bits); refine hK _ _ ?_; clear hK K)
  (refine flow_quiet rfl rfl (fun K hK => ?_); apply Exists.intro; apply And.intro; (focus (rintro w' ⟨nn, rfl⟩; go_simp; (try go_bits); exact ⟨rfl, Dr.of _ _⟩)); go_simp; (try go_bits); refine hK _ ?_; clear hK K)
  refine flow_nil ?_
  rintro w' ⟨nq, rfl⟩
  go_wp2
  rw [rounds_succ]
  go_wp2
  first | refine wp_flow (fun k => ([1, 1, 1, 1, 1, 1, 1, 1, 1, 1, 1, 0, 1, 2, 1] : List Nat).getD k 1) Dr _ (Dr.next _ _) (by kernel_rfl) (by kernel_rfl) ?_ | refine wp_flow (fun k => ([1, 1, 1, 1, 1, 1, 1, 1, 1, 1, 1, 0, 1, 2, 1] : List Nat).getD k 1) Dr _ (Dr.one _) (by kernel_rfl) (by kernel_rfl) ?_
  iterate 11 ((refine flow_quiet rfl rfl (fun K hK => ?_); apply Exists.intro; apply And.intro; (focus (rintro w' ⟨nn, rfl⟩; go_simp; (try go_bits); exact ⟨rfl, Dr.of _ _⟩)); go_simp; (try go_bits); refine hK _ ?_; clear hK K))
  (refine flow_late rfl rfl (fun K hK => ?_); apply Exists.intro; apply And.intro; (focus (intro w0 w' hlw; clear hlw; go_simp; (try go_bits); exact rfl)); go_simp; (try go_bits); refine hK _ ?_; clear hK K)
  (refine flow_quiet rfl rfl (fun K hK => ?_); apply Exists.intro; apply And.intro; (focus (rintro w' ⟨nn, rfl⟩; go_simp; (try go_bits); exact ⟨rfl, Dr.of _ _⟩)); go_simp; (try go_bits); refine hK _ ?_; clear hK K)
  (refine flow_eff rfl rfl (fun K hK => ?_); apply Exists.intro; apply Exists.intro; apply And.intro; (focus (rintro w' ⟨nn, rfl⟩; go_simp; (try go_bits); refine ⟨rfl, ?_⟩; with_reducible first | exact Dr.store _ _ _ _ | exact Dr.store4 _ _ _ _ _ _ _ _ _ _)); go_simp; (try go_bits); refine hK _ _ ?_; clear hK K)
  (refine flow_quiet rfl rfl (fun K hK => ?_); apply Exists.intro; apply And.intro; (focus (rintro w' ⟨nn, rfl⟩; go_simp; (try go_bits); exact ⟨rfl, Dr.of _ _⟩)); go_simp; (try go_bits); refine hK _ ?_; clear hK K)
  refine flow_nil ?_
  rintro w' ⟨nq, rfl⟩
  go_wp2
  rw [rounds_succ]
  go_wp2
  first | refine wp_flow (fun k => ([1, 1, 1, 1, 1, 1, 1, 1, 1, 1, 1, 0, 1, 2, 1] : List Nat).getD k 1) Dr _ (Dr.next _ _) (by kernel_rfl) (by kernel_rfl) ?_ | refine wp_flow (fun k => ([1, 1, 1, 1, 1, 1, 1, 1, 1, 1, 1, 0, 1, 2, 1] : List Nat).getD k 1) Dr _ (Dr.one _) (by kernel_rfl) (by kernel_rfl) ?_
  iterate 11 ((refine flow_quiet rfl rfl (fun K hK => ?_); apply Exists.intro; apply And.intro; (focus (rintro w' ⟨nn, rfl⟩; go_simp; (try go_bits); exact ⟨rfl, Dr.of _ _⟩)); go_simp; (try go_bits); refine hK _ ?_; clear hK K))
  (refine flow_late rfl rfl (fun K hK => ?_); apply Exists.intro; apply And.intro; (focus (intro w0 w' hlw; clear hlw; go_simp; (try go_bits); exact rfl)); go_simp; (try go_bits); refine hK _ ?_; clear hK K)
  (refine flow_quiet rfl rfl (fun K hK => ?_); apply Exists.intro; apply And.intro; (focus (rintro w' ⟨nn, rfl⟩; go_simp; (try go_bits); exact ⟨rfl, Dr.of _ _⟩)); go_simp; (try go_bits); refine hK _ ?_; clear hK K)
  (refine flow_eff rfl rfl (fun K hK => ?_); apply Exists.intro; apply Exists.intro; apply And.intro; (focus (rintro w' ⟨nn, rfl⟩; go_simp; (try go_bits); refine ⟨rfl, ?_⟩; with_reducible first | exact Dr.store _ _ _ _ | exact Dr.store4 _ _ _ _ _ _ _ _ _ _)); go_simp; (try go_bits); refine hK _ _ ?_; clear hK K)
  (refine flow_quiet rfl rfl (fun K hK => ?_); apply Exists.intro; apply And.intro; (focus (rintro w' ⟨nn, rfl⟩; go_simp; (try go_bits); exact ⟨rfl, Dr.of _ _⟩)); go_simp; (try go_bits); refine hK _ ?_; clear hK K)
  refine flow_nil ?_
  rintro w' ⟨nq, rfl⟩
  go_wp2
  rw [rounds_succ]
  go_wp2
  first | refine wp_flow (fun k => ([1, 1, 1, 1, 1, 1, 1, 1, 1, 1, 1, 0, 1, 2, 1] : List Nat).getD k 1) Dr _ (Dr.next _ _) (by kernel_rfl) (by kernel_rfl) ?_ | refine wp_flow (fun k => ([1, 1, 1, 1, 1, 1, 1, 1, 1, 1, 1, 0, 1, 2, 1] : List Nat).getD k 1) Dr _ (Dr.one _) (by kernel_rfl) (by kernel_rfl) ?_
  iterate 11 ((refine flow_quiet rfl rfl (fun K hK => ?_); apply Exists.intro; apply And.intro; (focus (rintro w' ⟨nn, rfl⟩; go_simp; (try go_bits); exact ⟨rfl, Dr.of _ _⟩)); go_simp; (try go_bits); refine hK _ ?_; clear hK K))
  (refine flow_late rfl rfl (fun K hK => ?_); apply Exists.intro; apply And.intro; (focus (intro w0 w' hlw; clear hlw; go_simp; (try go_bits); exact rfl)); go_simp; (try go_bits); refine hK _ ?_; clear hK K)
  (refine flow_quiet rfl rfl (fun K hK => ?_); apply Exists.intro; apply And.intro; (focus (rintro w' ⟨nn, rfl⟩; go_simp; (try go_bits); exact ⟨rfl, Dr.of _ _⟩)); go_simp; (try go_bits); refine hK _ ?_; clear hK K)
  (refine flow_eff rfl rfl (fun K hK => ?_); apply Exists.intro; apply Exists.intro; apply And.intro; (focus (rintro w' ⟨nn, rfl⟩; go_simp; (try go_bits); refine ⟨rfl, ?_⟩; with_reducible first | exact Dr.store _ _ _ _ | exact Dr.store4 _ _ _ _ _ _ _ _ _ _)); go_simp; (try go_bits); refine hK _ _ ?_; clear hK K)
  (refine flow_quiet rfl rfl (fun K hK => ?_); apply Exists.intro; apply And.intro; (focus (rintro w' ⟨nn, rfl⟩; go_simp; (try go_bits); exact ⟨rfl, Dr.of _ _⟩)); go_simp; (try go_bits); refine hK _ ?_; clear hK K)
  refine flow_nil ?_
  rintro w' ⟨nq, rfl⟩
  go_wp2
  rw [rounds_succ]
  go_wp2
  refine bodyPost_ret (v := .agg #[.int .u64 s0, .int .u64 s1, .int .u64 s2, .int .u64 s3]) (by simp [results, Tryd.results54, go_sem]) rfl ⟨rfl, ?_⟩
  repeat (first | exact Below.refl _ _ | refine below_drewN ?_ _ | refine Below.drew ?_ | refine Below.setCell ?_ (by simp <;> omega) _ | refine Below.alloc ?_ (by simp <;> omega) _)


set_option maxRecDepth 100000 in
set_option maxHeartbeats 400000 in
/-- Add. -/
theorem Add_any (a b : Nat) (ha : a < Q256) (hb : b < Q256) (w : World) :
    Calls Tryd.prog 43 #[W4 a, W4 b] w fun e w' => e = .returned (W4 ((a + b) % Q256)) ∧ Below w.heap.size w w' := by
  go_enter Tryd.func43, Tryd.ntmps43
  go_wp2_with (go_at_call 60; refine (sum_any a b ha hb _).mono ?_; rintro e w1 ⟨rfl, hb_w1⟩; have hc_w1 := (bcell hb_w1).1; have hf_w1 := (bcell hb_w1).2; have hz_w1 : _ ≤ w1.heap.size := hb_w1.size; (try simp only [World.size_alloc, World.heap_drewN, World.size_setCell, heap_drew] at hc_w1 hf_w1 hz_w1); have hz_w1_w_0 : w.heap.size < w1.heap.size := (by omega); have hz_w1_w_1 : w.heap.size + 1 < w1.heap.size := (by omega); have hz_w1_w_2 : w.heap.size + 1 + 1 < w1.heap.size := (by omega))
  refine bodyPost_ret (v := W4 ((a + b) % Q256)) (by simp only [results, Tryd.results43]; go_simp) rfl ⟨rfl, ?_⟩
  repeat (first | exact Below.refl _ _ | refine below_drewN ?_ _ | refine Below.drew ?_ | refine Below.setCell ?_ (by first | omega | (simp; done) | (simp; omega)) _ | refine Below.alloc ?_ (by first | omega | (simp; done) | (simp; omega)) _ | refine Below.trans ?_ (Below.mono (by assumption) (by first | omega | (simp; done) | (simp; omega))))

set_option maxRecDepth 100000 in
set_option maxHeartbeats 4000000 in
/-- Less. -/
theorem Less_any (a b : Nat) (ha : a < Q256) (hb : b < Q256) (w : World) :
    Calls Tryd.prog 53 #[W4 a, W4 b] w fun e w' => e = .returned (.bool (ltB a b)) ∧ Below w.heap.size w w' := by
  have n3 : lb a 3 ≠ lb b 3 → (((lb a 3 : Nat) : Int) != ((lb b 3 : Nat) : Int)) = true := fun h => by simp only [bne_iff_ne, ne_eq, Int.natCast_inj]; exact h
  have n2 : lb a 2 ≠ lb b 2 → (((lb a 2 : Nat) : Int) != ((lb b 2 : Nat) : Int)) = true := fun h => by simp only [bne_iff_ne, ne_eq, Int.natCast_inj]; exact h
  have n1 : lb a 1 ≠ lb b 1 → (((lb a 1 : Nat) : Int) != ((lb b 1 : Nat) : Int)) = true := fun h => by simp only [bne_iff_ne, ne_eq, Int.natCast_inj]; exact h
  have n0 : lb a 0 ≠ lb b 0 → (((lb a 0 : Nat) : Int) != ((lb b 0 : Nat) : Int)) = true := fun h => by simp only [bne_iff_ne, ne_eq, Int.natCast_inj]; exact h
  have e3 : lb a 3 = lb b 3 → (((lb a 3 : Nat) : Int) != ((lb b 3 : Nat) : Int)) = false := fun h => by rw [h]; simp
  have e2 : lb a 2 = lb b 2 → (((lb a 2 : Nat) : Int) != ((lb b 2 : Nat) : Int)) = false := fun h => by rw [h]; simp
  have e1 : lb a 1 = lb b 1 → (((lb a 1 : Nat) : Int) != ((lb b 1 : Nat) : Int)) = false := fun h => by rw [h]; simp
  have e0 : lb a 0 = lb b 0 → (((lb a 0 : Nat) : Int) != ((lb b 0 : Nat) : Int)) = false := fun h => by rw [h]; simp
  by_cases h3 : lb a 3 = lb b 3
  · have t3 := e3 h3
    by_cases h2 : lb a 2 = lb b 2
    · have t2 := e2 h2
      by_cases h1 : lb a 1 = lb b 1
      · have t1 := e1 h1
        have H := Lib.hid (ltB_0 ha hb h3 h2 h1)
        by_cases h0 : lb a 0 = lb b 0
        · have t0 := e0 h0
          have H0 := Lib.hid h0
          clear h3 h2 h1 h0 n3 n2 n1 n0 e3 e2 e1 e0
          go_enter Tryd.func53, Tryd.ntmps53
          go_wp2
          refine wp_loop_rounds 5 ?_
          rw [rounds_succ]
          go_wp2
          first | refine wp_flow (fun k => ([1, 1, 1, 1, 1, 1, 1] : List Nat).getD k 1) Dr _ (Dr.next _ _) (by kernel_rfl) (by kernel_rfl) ?_ | refine wp_flow (fun k => ([1, 1, 1, 1, 1, 1, 1] : List Nat).getD k 1) Dr _ (Dr.one _) (by kernel_rfl) (by kernel_rfl) ?_
          iterate 7 ((refine flow_quiet rfl rfl (fun K hK => ?_); apply Exists.intro; apply And.intro; (focus (rintro w' ⟨nn, rfl⟩; go_simp; (try go_bits); exact ⟨rfl, Dr.of _ _⟩)); go_simp; (try go_bits); refine hK _ ?_; clear hK K))
          refine flow_nil ?_
          rintro w' ⟨nq, rfl⟩
          go_wp2
          rw [rounds_succ]
          go_wp2
          first | refine wp_flow (fun k => ([1, 1, 1, 1, 1, 1, 1] : List Nat).getD k 1) Dr _ (Dr.next _ _) (by kernel_rfl) (by kernel_rfl) ?_ | refine wp_flow (fun k => ([1, 1, 1, 1, 1, 1, 1] : List Nat).getD k 1) Dr _ (Dr.one _) (by kernel_rfl) (by kernel_rfl) ?_
          iterate 7 ((refine flow_quiet rfl rfl (fun K hK => ?_); apply Exists.intro; apply And.intro; (focus (rintro w' ⟨nn, rfl⟩; go_simp; (try go_bits); exact ⟨rfl, Dr.of _ _⟩)); go_simp; (try go_bits); refine hK _ ?_; clear hK K))
          refine flow_nil ?_
          rintro w' ⟨nq, rfl⟩
          go_wp2
          rw [rounds_succ]
          go_wp2
          first | refine wp_flow (fun k => ([1, 1, 1, 1, 1, 1, 1] : List Nat).getD k 1) Dr _ (Dr.next _ _) (by kernel_rfl) (by kernel_rfl) ?_ | refine wp_flow (fun k => ([1, 1, 1, 1, 1, 1, 1] : List Nat).getD k 1) Dr _ (Dr.one _) (by kernel_rfl) (by kernel_rfl) ?_
          iterate 7 ((refine flow_quiet rfl rfl (fun K hK => ?_); apply Exists.intro; apply And.intro; (focus (rintro w' ⟨nn, rfl⟩; go_simp; (try go_bits); exact ⟨rfl, Dr.of _ _⟩)); go_simp; (try go_bits); refine hK _ ?_; clear hK K))
          refine flow_nil ?_
          rintro w' ⟨nq, rfl⟩
          go_wp2
          rw [rounds_succ]
          go_wp2
          first | refine wp_flow (fun k => ([1, 1, 1, 1, 1, 1, 1] : List Nat).getD k 1) Dr _ (Dr.next _ _) (by kernel_rfl) (by kernel_rfl) ?_ | refine wp_flow (fun k => ([1, 1, 1, 1, 1, 1, 1] : List Nat).getD k 1) Dr _ (Dr.one _) (by kernel_rfl) (by kernel_rfl) ?_
          iterate 7 ((refine flow_quiet rfl rfl (fun K hK => ?_); apply Exists.intro; apply And.intro; (focus (rintro w' ⟨nn, rfl⟩; go_simp; (try go_bits); exact ⟨rfl, Dr.of _ _⟩)); go_simp; (try go_bits); refine hK _ ?_; clear hK K))
          refine flow_nil ?_
          rintro w' ⟨nq, rfl⟩
          go_wp2
          rw [rounds_succ]
          go_wp2
          go_ret
          refine ⟨ret_bool ?_, ?_⟩
          · rw [← H.out, H0.out]; simp
          repeat (first | exact Below.refl _ _ | refine below_drewN ?_ _ | refine Below.drew ?_ | refine Below.setCell ?_ (by first | omega | (simp; done) | (simp; omega)) _ | refine Below.alloc ?_ (by first | omega | (simp; done) | (simp; omega)) _ | refine Below.trans ?_ (Below.mono (by assumption) (by first | omega | (simp; done) | (simp; omega))))
        · have t0 := n0 h0
          clear h3 h2 h1 h0 n3 n2 n1 n0 e3 e2 e1 e0
          go_enter Tryd.func53, Tryd.ntmps53
          go_wp2
          refine wp_loop_rounds 5 ?_
          rw [rounds_succ]
          go_wp2
          first | refine wp_flow (fun k => ([1, 1, 1, 1, 1, 1, 1] : List Nat).getD k 1) Dr _ (Dr.next _ _) (by kernel_rfl) (by kernel_rfl) ?_ | refine wp_flow (fun k => ([1, 1, 1, 1, 1, 1, 1] : List Nat).getD k 1) Dr _ (Dr.one _) (by kernel_rfl) (by kernel_rfl) ?_
          iterate 7 ((refine flow_quiet rfl rfl (fun K hK => ?_); apply Exists.intro; apply And.intro; (focus (rintro w' ⟨nn, rfl⟩; go_simp; (try go_bits); exact ⟨rfl, Dr.of _ _⟩)); go_simp; (try go_bits); refine hK _ ?_; clear hK K))
          refine flow_nil ?_
          rintro w' ⟨nq, rfl⟩
          go_wp2
          rw [rounds_succ]
          go_wp2
          first | refine wp_flow (fun k => ([1, 1, 1, 1, 1, 1, 1] : List Nat).getD k 1) Dr _ (Dr.next _ _) (by kernel_rfl) (by kernel_rfl) ?_ | refine wp_flow (fun k => ([1, 1, 1, 1, 1, 1, 1] : List Nat).getD k 1) Dr _ (Dr.one _) (by kernel_rfl) (by kernel_rfl) ?_
          iterate 7 ((refine flow_quiet rfl rfl (fun K hK => ?_); apply Exists.intro; apply And.intro; (focus (rintro w' ⟨nn, rfl⟩; go_simp; (try go_bits); exact ⟨rfl, Dr.of _ _⟩)); go_simp; (try go_bits); refine hK _ ?_; clear hK K))
          refine flow_nil ?_
          rintro w' ⟨nq, rfl⟩
          go_wp2
          rw [rounds_succ]
          go_wp2
          first | refine wp_flow (fun k => ([1, 1, 1, 1, 1, 1, 1] : List Nat).getD k 1) Dr _ (Dr.next _ _) (by kernel_rfl) (by kernel_rfl) ?_ | refine wp_flow (fun k => ([1, 1, 1, 1, 1, 1, 1] : List Nat).getD k 1) Dr _ (Dr.one _) (by kernel_rfl) (by kernel_rfl) ?_
          iterate 7 ((refine flow_quiet rfl rfl (fun K hK => ?_); apply Exists.intro; apply And.intro; (focus (rintro w' ⟨nn, rfl⟩; go_simp; (try go_bits); exact ⟨rfl, Dr.of _ _⟩)); go_simp; (try go_bits); refine hK _ ?_; clear hK K))
          refine flow_nil ?_
          rintro w' ⟨nq, rfl⟩
          go_wp2
          rw [rounds_succ]
          go_wp2
          first | refine wp_flow (fun k => ([1, 1, 1, 1, 1, 1, 1] : List Nat).getD k 1) Dr _ (Dr.next _ _) (by kernel_rfl) (by kernel_rfl) ?_ | refine wp_flow (fun k => ([1, 1, 1, 1, 1, 1, 1] : List Nat).getD k 1) Dr _ (Dr.one _) (by kernel_rfl) (by kernel_rfl) ?_
          iterate 7 ((refine flow_quiet rfl rfl (fun K hK => ?_); apply Exists.intro; apply And.intro; (focus (rintro w' ⟨nn, rfl⟩; go_simp; (try go_bits); exact ⟨rfl, Dr.of _ _⟩)); go_simp; (try go_bits); refine hK _ ?_; clear hK K))
          refine flow_nil ?_
          rintro w' ⟨nq, rfl⟩
          go_wp2
          first | refine wp_flow (fun k => ([1, 1, 1, 1, 1, 1, 1, 1] : List Nat).getD k 1) Dr _ (Dr.next _ _) (by kernel_rfl) (by kernel_rfl) ?_ | refine wp_flow (fun k => ([1, 1, 1, 1, 1, 1, 1, 1] : List Nat).getD k 1) Dr _ (Dr.one _) (by kernel_rfl) (by kernel_rfl) ?_
          iterate 8 ((refine flow_quiet rfl rfl (fun K hK => ?_); apply Exists.intro; apply And.intro; (focus (rintro w' ⟨nn, rfl⟩; go_simp; (try go_bits); exact ⟨rfl, Dr.of _ _⟩)); go_simp; (try go_bits); refine hK _ ?_; clear hK K))
          refine flow_nil ?_
          rintro w' ⟨nq, rfl⟩
          go_wp2
          go_ret
          refine ⟨ret_bool H.out, ?_⟩
          repeat (first | exact Below.refl _ _ | refine below_drewN ?_ _ | refine Below.drew ?_ | refine Below.setCell ?_ (by first | omega | (simp; done) | (simp; omega)) _ | refine Below.alloc ?_ (by first | omega | (simp; done) | (simp; omega)) _ | refine Below.trans ?_ (Below.mono (by assumption) (by first | omega | (simp; done) | (simp; omega))))
      · have t1 := n1 h1
        have H := Lib.hid (ltB_1 ha hb h3 h2 h1)
        clear h3 h2 h1 n3 n2 n1 n0 e3 e2 e1 e0
        go_enter Tryd.func53, Tryd.ntmps53
        go_wp2
        refine wp_loop_rounds 5 ?_
        rw [rounds_succ]
        go_wp2
        first | refine wp_flow (fun k => ([1, 1, 1, 1, 1, 1, 1] : List Nat).getD k 1) Dr _ (Dr.next _ _) (by kernel_rfl) (by kernel_rfl) ?_ | refine wp_flow (fun k => ([1, 1, 1, 1, 1, 1, 1] : List Nat).getD k 1) Dr _ (Dr.one _) (by kernel_rfl) (by kernel_rfl) ?_
        iterate 7 ((refine flow_quiet rfl rfl (fun K hK => ?_); apply Exists.intro; apply And.intro; (focus (rintro w' ⟨nn, rfl⟩; go_simp; (try go_bits); exact ⟨rfl, Dr.of _ _⟩)); go_simp; (try go_bits); refine hK _ ?_; clear hK K))
        refine flow_nil ?_
        rintro w' ⟨nq, rfl⟩
        go_wp2
        rw [rounds_succ]
        go_wp2
        first | refine wp_flow (fun k => ([1, 1, 1, 1, 1, 1, 1] : List Nat).getD k 1) Dr _ (Dr.next _ _) (by kernel_rfl) (by kernel_rfl) ?_ | refine wp_flow (fun k => ([1, 1, 1, 1, 1, 1, 1] : List Nat).getD k 1) Dr _ (Dr.one _) (by kernel_rfl) (by kernel_rfl) ?_
        iterate 7 ((refine flow_quiet rfl rfl (fun K hK => ?_); apply Exists.intro; apply And.intro; (focus (rintro w' ⟨nn, rfl⟩; go_simp; (try go_bits); exact ⟨rfl, Dr.of _ _⟩)); go_simp; (try go_bits); refine hK _ ?_; clear hK K))
        refine flow_nil ?_
        rintro w' ⟨nq, rfl⟩
        go_wp2
        rw [rounds_succ]
        go_wp2
        first | refine wp_flow (fun k => ([1, 1, 1, 1, 1, 1, 1] : List Nat).getD k 1) Dr _ (Dr.next _ _) (by kernel_rfl) (by kernel_rfl) ?_ | refine wp_flow (fun k => ([1, 1, 1, 1, 1, 1, 1] : List Nat).getD k 1) Dr _ (Dr.one _) (by kernel_rfl) (by kernel_rfl) ?_
        iterate 7 ((refine flow_quiet rfl rfl (fun K hK => ?_); apply Exists.intro; apply And.intro; (focus (rintro w' ⟨nn, rfl⟩; go_simp; (try go_bits); exact ⟨rfl, Dr.of _ _⟩)); go_simp; (try go_bits); refine hK _ ?_; clear hK K))
        refine flow_nil ?_
        rintro w' ⟨nq, rfl⟩
        go_wp2
        first | refine wp_flow (fun k => ([1, 1, 1, 1, 1, 1, 1, 1] : List Nat).getD k 1) Dr _ (Dr.next _ _) (by kernel_rfl) (by kernel_rfl) ?_ | refine wp_flow (fun k => ([1, 1, 1, 1, 1, 1, 1, 1] : List Nat).getD k 1) Dr _ (Dr.one _) (by kernel_rfl) (by kernel_rfl) ?_
        iterate 8 ((refine flow_quiet rfl rfl (fun K hK => ?_); apply Exists.intro; apply And.intro; (focus (rintro w' ⟨nn, rfl⟩; go_simp; (try go_bits); exact ⟨rfl, Dr.of _ _⟩)); go_simp; (try go_bits); refine hK _ ?_; clear hK K))
        refine flow_nil ?_
        rintro w' ⟨nq, rfl⟩
        go_wp2
        go_ret
        refine ⟨ret_bool H.out, ?_⟩
        repeat (first | exact Below.refl _ _ | refine below_drewN ?_ _ | refine Below.drew ?_ | refine Below.setCell ?_ (by first | omega | (simp; done) | (simp; omega)) _ | refine Below.alloc ?_ (by first | omega | (simp; done) | (simp; omega)) _ | refine Below.trans ?_ (Below.mono (by assumption) (by first | omega | (simp; done) | (simp; omega))))
    · have t2 := n2 h2
      have H := Lib.hid (ltB_2 ha hb h3 h2)
      clear h3 h2 n3 n2 n1 n0 e3 e2 e1 e0
      go_enter Tryd.func53, Tryd.ntmps53
      go_wp2
      refine wp_loop_rounds 5 ?_
      rw [rounds_succ]
      go_wp2
      first | refine wp_flow (fun k => ([1, 1, 1, 1, 1, 1, 1] : List Nat).getD k 1) Dr _ (Dr.next _ _) (by kernel_rfl) (by kernel_rfl) ?_ | refine wp_flow (fun k => ([1, 1, 1, 1, 1, 1, 1] : List Nat).getD k 1) Dr _ (Dr.one _) (by kernel_rfl) (by kernel_rfl) ?_
      iterate 7 ((refine flow_quiet rfl rfl (fun K hK => ?_); apply Exists.intro; apply And.intro; (focus (rintro w' ⟨nn, rfl⟩; go_simp; (try go_bits); exact ⟨rfl, Dr.of _ _⟩)); go_simp; (try go_bits); refine hK _ ?_; clear hK K))
      refine flow_nil ?_
      rintro w' ⟨nq, rfl⟩
      go_wp2
      rw [rounds_succ]
      go_wp2
      first | refine wp_flow (fun k => ([1, 1, 1, 1, 1, 1, 1] : List Nat).getD k 1) Dr _ (Dr.next _ _) (by kernel_rfl) (by kernel_rfl) ?_ | refine wp_flow (fun k => ([1, 1, 1, 1, 1, 1, 1] : List Nat).getD k 1) Dr _ (Dr.one _) (by kernel_rfl) (by kernel_rfl) ?_
      iterate 7 ((refine flow_quiet rfl rfl (fun K hK => ?_); apply Exists.intro; apply And.intro; (focus (rintro w' ⟨nn, rfl⟩; go_simp; (try go_bits); exact ⟨rfl, Dr.of _ _⟩)); go_simp; (try go_bits); refine hK _ ?_; clear hK K))
      refine flow_nil ?_
      rintro w' ⟨nq, rfl⟩
      go_wp2
      first | refine wp_flow (fun k => ([1, 1, 1, 1, 1, 1, 1, 1] : List Nat).getD k 1) Dr _ (Dr.next _ _) (by kernel_rfl) (by kernel_rfl) ?_ | refine wp_flow (fun k => ([1, 1, 1, 1, 1, 1, 1, 1] : List Nat).getD k 1) Dr _ (Dr.one _) (by kernel_rfl) (by kernel_rfl) ?_
      iterate 8 ((refine flow_quiet rfl rfl (fun K hK => ?_); apply Exists.intro; apply And.intro; (focus (rintro w' ⟨nn, rfl⟩; go_simp; (try go_bits); exact ⟨rfl, Dr.of _ _⟩)); go_simp; (try go_bits); refine hK _ ?_; clear hK K))
      refine flow_nil ?_
      rintro w' ⟨nq, rfl⟩
      go_wp2
      go_ret
      refine ⟨ret_bool H.out, ?_⟩
      repeat (first | exact Below.refl _ _ | refine below_drewN ?_ _ | refine Below.drew ?_ | refine Below.setCell ?_ (by first | omega | (simp; done) | (simp; omega)) _ | refine Below.alloc ?_ (by first | omega | (simp; done) | (simp; omega)) _ | refine Below.trans ?_ (Below.mono (by assumption) (by first | omega | (simp; done) | (simp; omega))))
  · have t3 := n3 h3
    have H := Lib.hid (ltB_3 ha hb h3)
    clear h3 n3 n2 n1 n0 e3 e2 e1 e0
    go_enter Tryd.func53, Tryd.ntmps53
    go_wp2
    refine wp_loop_rounds 5 ?_
    rw [rounds_succ]
    go_wp2
    first | refine wp_flow (fun k => ([1, 1, 1, 1, 1, 1, 1] : List Nat).getD k 1) Dr _ (Dr.next _ _) (by kernel_rfl) (by kernel_rfl) ?_ | refine wp_flow (fun k => ([1, 1, 1, 1, 1, 1, 1] : List Nat).getD k 1) Dr _ (Dr.one _) (by kernel_rfl) (by kernel_rfl) ?_
    iterate 7 ((refine flow_quiet rfl rfl (fun K hK => ?_); apply Exists.intro; apply And.intro; (focus (rintro w' ⟨nn, rfl⟩; go_simp; (try go_bits); exact ⟨rfl, Dr.of _ _⟩)); go_simp; (try go_bits); refine hK _ ?_; clear hK K))
    refine flow_nil ?_
    rintro w' ⟨nq, rfl⟩
    go_wp2
    first | refine wp_flow (fun k => ([1, 1, 1, 1, 1, 1, 1, 1] : List Nat).getD k 1) Dr _ (Dr.next _ _) (by kernel_rfl) (by kernel_rfl) ?_ | refine wp_flow (fun k => ([1, 1, 1, 1, 1, 1, 1, 1] : List Nat).getD k 1) Dr _ (Dr.one _) (by kernel_rfl) (by kernel_rfl) ?_
    iterate 8 ((refine flow_quiet rfl rfl (fun K hK => ?_); apply Exists.intro; apply And.intro; (focus (rintro w' ⟨nn, rfl⟩; go_simp; (try go_bits); exact ⟨rfl, Dr.of _ _⟩)); go_simp; (try go_bits); refine hK _ ?_; clear hK K))
    refine flow_nil ?_
    rintro w' ⟨nq, rfl⟩
    go_wp2
    go_ret
    refine ⟨ret_bool H.out, ?_⟩
    repeat (first | exact Below.refl _ _ | refine below_drewN ?_ _ | refine Below.drew ?_ | refine Below.setCell ?_ (by first | omega | (simp; done) | (simp; omega)) _ | refine Below.alloc ?_ (by first | omega | (simp; done) | (simp; omega)) _ | refine Below.trans ?_ (Below.mono (by assumption) (by first | omega | (simp; done) | (simp; omega))))

end Go.Proofs.YtcdjdnbdblpofaaDoor
