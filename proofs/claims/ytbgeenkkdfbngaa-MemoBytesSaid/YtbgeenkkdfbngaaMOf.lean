/-
  The contract of word.Of, and when two words are equal by '=='. Conditions: none.
-/
import Derived.Test.YtbgeenkkdfbngaaProg
import Derived.Test.YtbgeenkkdfbngaaFlow
import Derived.Test.YtbgeenkkdfbngaaFlow2
import Derived.Test.YtbgeenkkdfbngaaBase
import Derived.WalkKit
import Derived.ProofKit
import Derived.WalkSpells
import Derived.Lib.Hide
import Derived.Laws.StructEq
namespace Go.Proofs.Ytbgeenkkdfbngaa
open Go.RowKit
attribute [local go_sem] leftBy

/-- Of. -/
theorem Of_any (n : Nat) (hn : n < M64) (w : World) :
    Calls Try.prog 37 #[.int .u64 n] w fun e w' => e = .returned (W4 n) ∧ Below w.heap.size w w' := by
  have hw : W4 n = .agg #[.int .u64 n, .int .u64 0, .int .u64 0, .int .u64 0] := by
    obtain ⟨h0, h1, h2, h3⟩ := lb_small hn
    rw [W4, h0, h1, h2, h3]
    rfl
  rw [hw]
  clear hw
  go_enter Try.func37, Try.ntmps37
  go_wp2
  exact bodyPost_ret (v := .agg #[.int .u64 n, .int .u64 0, .int .u64 0, .int .u64 0]) (by simp [results, Try.results37, go_sem]) rfl ⟨rfl, (Below.refl _ _).alloc (Nat.le_refl _) _⟩

theorem guardW : Try.prog.eqGuardType Try.prog.depth 24 = false := by kernel_rfl

theorem eqW (a b c d a' b' c' d' : Int) (w : World) : (Op.equalIn 10000 24 (.agg #[.int .u64 a, .int .u64 b, .int .u64 c, .int .u64 d]) (.agg #[.int .u64 a', .int .u64 b', .int .u64 c', .int .u64 d'])).run Try.prog w = .ok (a == a' && (b == b' && (c == c' && d == d'))) w := by
  have u3 := Try.underlying22
  have a3 := Try.isAgg22
  have z3 := Try.sizeOf22
  rw [show (10000 : Nat) = 9999 + 1 from rfl, Op.equalIn]
  simp only [Sem.run_bind, run_underlying Try.underlying24, Result.andThen_ok]
  simp only [Std.Legacy.Range.forIn_eq_forIn_range', Std.Legacy.Range.size, Nat.sub_zero, Nat.add_sub_cancel, Nat.div_one, List.range'_succ, List.range'_zero, List.forIn_cons, List.forIn_nil]
  go_simp
  by_cases h1 : a = a' <;> by_cases h2 : b = b' <;> by_cases h3 : c = c' <;> by_cases h4 : d = d' <;> simp [h1, h2, h3, h4]

/-- Two words are equal if their numbers are. -/
theorem eqN {a b : Nat} (ha : a < Q256) (hb : b < Q256) : (((lb a 0 : Nat) : Int) == ((lb b 0 : Nat) : Int) && (((lb a 1 : Nat) : Int) == ((lb b 1 : Nat) : Int) && (((lb a 2 : Nat) : Int) == ((lb b 2 : Nat) : Int) && ((lb a 3 : Nat) : Int) == ((lb b 3 : Nat) : Int)))) = decide (a = b) := by
  refine Bool.eq_iff_iff.2 ?_
  simp only [Bool.and_eq_true, beq_iff_eq, Int.natCast_inj, decide_eq_true_iff]
  refine ⟨fun ⟨h0, h1, h2, h3⟩ => lb_inj ha hb h0 h1 h2 h3, fun h => ?_⟩
  rw [h]
  exact ⟨rfl, rfl, rfl, rfl⟩

theorem eql_run {a b : Nat} (ha : a < Q256) (hb : b < Q256) (w : World) : (binOp .eql 24 (.agg #[.int .u64 (lb a 0 : Nat), .int .u64 (lb a 1 : Nat), .int .u64 (lb a 2 : Nat), .int .u64 (lb a 3 : Nat)]) (.agg #[.int .u64 (lb b 0 : Nat), .int .u64 (lb b 1 : Nat), .int .u64 (lb b 2 : Nat), .int .u64 (lb b 3 : Nat)])).run Try.prog w = .ok (.bool (decide (a = b))) w := by
  rw [run_eql_struct, eqW, eqN ha hb]
  rfl

theorem neq_run {a b : Nat} (ha : a < Q256) (hb : b < Q256) (w : World) : (binOp .neq 24 (.agg #[.int .u64 (lb a 0 : Nat), .int .u64 (lb a 1 : Nat), .int .u64 (lb a 2 : Nat), .int .u64 (lb a 3 : Nat)]) (.agg #[.int .u64 (lb b 0 : Nat), .int .u64 (lb b 1 : Nat), .int .u64 (lb b 2 : Nat), .int .u64 (lb b 3 : Nat)])).run Try.prog w = .ok (.bool (!decide (a = b))) w := by
  rw [run_neq_struct, eqW, eqN ha hb]
  rfl

end Go.Proofs.Ytbgeenkkdfbngaa
