/-
  The contracts of the small functions: a lane turned, a lane's place. Conditions: none.
-/
import Derived.Test.YtcdjdnbdblpofaaDoorKBase
import Derived.WalkKit
namespace Go.Proofs.YtcdjdnbdblpofaaDoor
open Go.RowKit
attribute [local go_sem] leftBy
set_option linter.unusedSimpArgs false
set_option linter.unusedVariables false

theorem and63 {k : Nat} (h : k < 64) : bits .and .u64 ((k : Nat) : Int) 63 = ((k : Nat) : Int) := by
  rw [show (63 : Int) = ((63 : Nat) : Int) from rfl, u64_and_nat _ _ (by omega) (by decide)]
  congr 1
  have := Nat.and_two_pow_sub_one_eq_mod k 6
  rw [show 2 ^ 6 - 1 = 63 by decide, show 2 ^ 6 = 64 by decide] at this
  omega

theorem rot_bits {x s : Nat} (h : x < M64) : bits .or .u64 (IntKind.u64.wrap ((x : Nat) * 2 ^ s)) (((x : Nat) : Int) / 2 ^ (64 - s)) = ((rotl x s : Nat) : Int) := by
  have e2 : ((x : Nat) : Int) / 2 ^ (64 - s) = ((x / 2 ^ (64 - s) : Nat) : Int) := by push_cast; rfl
  rw [e2]
  have e : ((x : Int) * 2 ^ s) = ((x * 2 ^ s : Nat) : Int) := by push_cast; rfl
  rw [e, u64_wrapN, u64_orN (Nat.mod_lt _ M64_pos) (Nat.lt_of_le_of_lt (Nat.div_le_self _ _) h)]
  rfl

attribute [local irreducible] rotl

set_option maxHeartbeats 4000000 in
/-- bits.RotateLeft64. -/
theorem rotate_any (x k : Nat) (hx : x < M64) (hk : k < 64) (w : World) :
    Calls Tryd.prog 82 #[.int .u64 (x : Nat), .int .i64 (k : Nat)] w fun e w' => e = .returned (.int .u64 (rotl x k : Nat)) ∧ Below w.heap.size w w' := by
  have hxm : x < 18446744073709551616 := hx
  have h63 := and63 hk
  have hrb := rot_bits (s := k) hx
  go_enter Tryd.func82, Tryd.ntmps82
  go_wp2
  go_ret
  exact ⟨rfl, Below.refl _ _⟩

set_option maxHeartbeats 4000000 in
/-- at. -/
theorem ref_at0 (x y : Nat) (hx : x < 1000) (hy : y < 1000) (w : World) :
    Calls Tryd.prog 93 #[.int .i64 (x : Nat), .int .i64 (y : Nat)] w fun e w' => e = .returned (.int .i64 ((x % 5 + 5 * (y % 5) : Nat) : Int)) ∧ w' = w := by
  have hat : ((x : Int) + 10) % 5 + 5 * (((y : Int) + 10) % 5) = ((x % 5 + 5 * (y % 5) : Nat) : Int) := by omega
  go_enter Tryd.func93, Tryd.ntmps93
  go_wp2
  go_ret
  exact ⟨rfl, rfl⟩

theorem ref_at (x y : Nat) (hx : x < 1000) (hy : y < 1000) (w : World) :
    Calls Tryd.prog 93 #[.int .i64 (x : Nat), .int .i64 (y : Nat)] w fun e w' => e = .returned (.int .i64 ((x % 5 + 5 * (y % 5) : Nat) : Int)) ∧ Below w.heap.size w w' :=
  (ref_at0 x y hx hy w).mono fun _ _ ⟨h1, h2⟩ => ⟨h1, h2 ▸ Below.refl _ _⟩

set_option maxHeartbeats 4000000 in
/-- left. -/
theorem ref_left0 (x k : Nat) (hx : x < M64) (hk : k < 64) (w : World) :
    Calls Tryd.prog 94 #[.int .u64 (x : Nat), .int .i64 (k : Nat)] w fun e w' => e = .returned (.int .u64 (rotl x k : Nat)) ∧ ∃ nn, w' = w.drewN nn := by
  have hxm : x < 18446744073709551616 := hx
  have hrb := rot_bits (s := k) hx
  by_cases h0 : k = 0
  · subst h0
    have hz := rotl_zero hx
    go_enter Tryd.func94, Tryd.ntmps94
    go_wp2
    go_ret
    exact ⟨by rw [hz]; rfl, 0, rfl⟩
  · go_enter Tryd.func94, Tryd.ntmps94
    go_wp2
    first | refine wp_flow (fun k => ([1, 1, 1, 1, 1, 1, 1, 1, 1] : List Nat).getD k 1) Dr _ (Dr.next _ _) (by kernel_rfl) (by kernel_rfl) ?_ | refine wp_flow (fun k => ([1, 1, 1, 1, 1, 1, 1, 1, 1] : List Nat).getD k 1) Dr _ (Dr.one _) (by kernel_rfl) (by kernel_rfl) ?_
    (refine flow_quiet rfl rfl (fun K hK => ?_); apply Exists.intro; apply And.intro; (focus (rintro w' ⟨nn, rfl⟩; go_simp; (try go_bits); exact ⟨rfl, Dr.of _ _⟩)); go_simp; (try go_bits); refine hK _ ?_; clear hK K)
    (refine flow_quiet rfl rfl (fun K hK => ?_); apply Exists.intro; apply And.intro; (focus (rintro w' ⟨nn, rfl⟩; go_simp; (try go_bits); exact ⟨rfl, Dr.of _ _⟩)); go_simp; (try go_bits); refine hK _ ?_; clear hK K)
    (refine flow_quiet rfl rfl (fun K hK => ?_); apply Exists.intro; apply And.intro; (focus (rintro w' ⟨nn, rfl⟩; go_simp; (try go_bits); exact ⟨rfl, Dr.of _ _⟩)); go_simp; (try go_bits); refine hK _ ?_; clear hK K)
    (refine flow_quiet rfl rfl (fun K hK => ?_); apply Exists.intro; apply And.intro; (focus (rintro w' ⟨nn, rfl⟩; go_simp; (try go_bits); exact ⟨rfl, Dr.of _ _⟩)); go_simp; (try go_bits); refine hK _ ?_; clear hK K)
    (refine flow_quiet rfl rfl (fun K hK => ?_); apply Exists.intro; apply And.intro; (focus (rintro w' ⟨nn, rfl⟩; go_simp; (try go_bits); exact ⟨rfl, Dr.of _ _⟩)); go_simp; (try go_bits); refine hK _ ?_; clear hK K)
    (refine flow_quiet rfl rfl (fun K hK => ?_); apply Exists.intro; apply And.intro; (focus (rintro w' ⟨nn, rfl⟩; go_simp; (try go_bits); exact ⟨rfl, Dr.of _ _⟩)); go_simp; (try go_bits); refine hK _ ?_; clear hK K)
    (refine flow_quiet rfl rfl (fun K hK => ?_); apply Exists.intro; apply And.intro; (focus (rintro w' ⟨nn, rfl⟩; go_simp; (try go_bits); exact ⟨rfl, Dr.of _ _⟩)); go_simp; (try go_bits); refine hK _ ?_; clear hK K)
    (refine flow_quiet rfl rfl (fun K hK => ?_); apply Exists.intro; apply And.intro; (focus (rintro w' ⟨nn, rfl⟩; go_simp; (try go_bits); exact ⟨rfl, Dr.of _ _⟩)); go_simp; (try go_bits); refine hK _ ?_; clear hK K)
    (refine flow_quiet rfl rfl (fun K hK => ?_); apply Exists.intro; apply And.intro; (focus (rintro w' ⟨nn, rfl⟩; go_simp; (try go_bits); exact ⟨rfl, Dr.of _ _⟩)); go_simp; (try go_bits); refine hK _ ?_; clear hK K)
    refine flow_nil ?_
    rintro w' ⟨nq, rfl⟩
    go_wp2
    go_ret
    exact ⟨rfl, _, rfl⟩
theorem ref_left (x k : Nat) (hx : x < M64) (hk : k < 64) (w : World) :
    Calls Tryd.prog 94 #[.int .u64 (x : Nat), .int .i64 (k : Nat)] w fun e w' => e = .returned (.int .u64 (rotl x k : Nat)) ∧ Below w.heap.size w w' :=
  (ref_left0 x k hx hk w).mono fun _ _ ⟨h1, nn, h2⟩ => ⟨h1, h2 ▸ below_drewN (Below.refl _ _) _⟩
end Go.Proofs.YtcdjdnbdblpofaaDoor
