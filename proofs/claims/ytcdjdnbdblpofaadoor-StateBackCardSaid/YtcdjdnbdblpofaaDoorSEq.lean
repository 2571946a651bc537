/-
  When two words are equal by '=='. Conditions: none.
-/
import Derived.Test.YtcdjdnbdblpofaaDoorProg
import Derived.Test.YtcdjdnbdblpofaaDoorFlow
import Derived.Test.YtcdjdnbdblpofaaDoorFlow2
import Derived.Test.YtcdjdnbdblpofaaDoorBase
import Derived.WalkKit
import Derived.ProofKit
import Derived.WalkSpells
import Derived.Laws.StructEq
namespace Go.Proofs.YtcdjdnbdblpofaaDoor
open Go.RowKit
attribute [local go_sem] leftBy

theorem guardW : Tryd.prog.eqGuardType Tryd.prog.depth 25 = false := by kernel_rfl

theorem eqW (a b c d a' b' c' d' : Int) (w : World) : (Op.equalIn 10000 25 (.agg #[.int .u64 a, .int .u64 b, .int .u64 c, .int .u64 d]) (.agg #[.int .u64 a', .int .u64 b', .int .u64 c', .int .u64 d'])).run Tryd.prog w = .ok (a == a' && (b == b' && (c == c' && d == d'))) w := by
  have u3 := Tryd.underlying23
  have a3 := Tryd.isAgg23
  have z3 := Tryd.sizeOf23
  rw [show (10000 : Nat) = 9999 + 1 from rfl, Op.equalIn]
  simp only [Sem.run_bind, run_underlying Tryd.underlying25, Result.andThen_ok]
  simp only [Std.Legacy.Range.forIn_eq_forIn_range', Std.Legacy.Range.size, Nat.sub_zero, Nat.add_sub_cancel, Nat.div_one, List.range'_succ, List.range'_zero, List.forIn_cons, List.forIn_nil]
  go_simp
  by_cases h1 : a = a' <;> by_cases h2 : b = b' <;> by_cases h3 : c = c' <;> by_cases h4 : d = d' <;> simp [h1, h2, h3, h4]

theorem eqlW (a b c d a' b' c' d' : Int) (w : World) : (binOp .eql 25 (.agg #[.int .u64 a, .int .u64 b, .int .u64 c, .int .u64 d]) (.agg #[.int .u64 a', .int .u64 b', .int .u64 c', .int .u64 d'])).run Tryd.prog w = .ok (.bool (a == a' && (b == b' && (c == c' && d == d')))) w := by
  rw [run_eql_struct, eqW]
  rfl

theorem neqW (a b c d a' b' c' d' : Int) (w : World) : (binOp .neq 25 (.agg #[.int .u64 a, .int .u64 b, .int .u64 c, .int .u64 d]) (.agg #[.int .u64 a', .int .u64 b', .int .u64 c', .int .u64 d'])).run Tryd.prog w = .ok (.bool (!(a == a' && (b == b' && (c == c' && d == d'))))) w := by
  rw [run_neq_struct, eqW]
  rfl
end Go.Proofs.YtcdjdnbdblpofaaDoor
