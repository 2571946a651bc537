/-
  The contracts of memo's small functions: Cost, small, has, Slice, cut. Conditions: none.
-/
import Derived.Test.YtbgeenkkdfbngaaMOf
import Derived.IntWalk
namespace Go.Proofs.Ytbgeenkkdfbngaa
open Go.RowKit
attribute [local go_sem] leftBy eqW guardW
set_option linter.unusedSimpArgs false
set_option linter.unusedVariables false


attribute [local irreducible] lb

/-- What a memory of n bytes costs. -/
def wordsF (n : Nat) : Nat := (n + 31) / 32
def costF (n : Nat) : Nat := 3 * wordsF n + wordsF n * wordsF n / 512
theorem costF_zero : costF 0 = 0 := rfl
theorem words_le {n : Nat} (h : n ≤ 100000) : wordsF n ≤ 3125 := by unfold wordsF; omega
theorem costF_le {n : Nat} (h : n ≤ 100000) : costF n < 1000000 := by
  have h1 := words_le h
  unfold costF
  have h2 : wordsF n * wordsF n ≤ 3125 * 3125 := Nat.mul_le_mul h1 h1
  omega
theorem costF_mono {m n : Nat} (h : m ≤ n) : costF m ≤ costF n := by
  have h1 : wordsF m ≤ wordsF n := by unfold wordsF; omega
  unfold costF
  have h2 : wordsF m * wordsF m ≤ wordsF n * wordsF n := Nat.mul_le_mul h1 h1
  omega

set_option maxHeartbeats 4000000 in
/-- Cost. -/
theorem Cost_any (n : Nat) (hn : n ≤ 100000) (w : World) :
    Calls Try.prog 11 #[.int .i64 (n : Nat)] w fun e w' => e = .returned (.int .u64 (costF n : Nat)) ∧ w' = w := by
  by_cases h0 : n = 0
  · subst h0
    go_enter Try.func11, Try.ntmps11
    go_wp2
    go_ret
    exact ⟨by rw [costF_zero]; rfl, rfl⟩
  · have h0i : ¬ (n : Int) ≤ 0 := by omega
    have hA : ((n : Int) + 31) / 32 = ((wordsF n : Nat) : Int) := by unfold wordsF; omega
    have hA' : ((n : Int) + 32 - 1) / 32 = ((wordsF n : Nat) : Int) := by unfold wordsF; omega
    have hwl := words_le hn
    have hS : wordsF n * wordsF n ≤ 3125 * 3125 := Nat.mul_le_mul hwl hwl
    have hc : costF n = 3 * wordsF n + wordsF n * wordsF n / 512 := rfl
    have hB : ((wordsF n : Nat) : Int) * ((wordsF n : Nat) : Int) = ((wordsF n * wordsF n : Nat) : Int) := (Int.natCast_mul _ _).symm
    generalize wordsF n * wordsF n = S at *
    generalize wordsF n = W at *
    generalize costF n = C at *
    have hci : 3 * (W : Int) + (S : Int) / 512 = (C : Int) := by omega
    clear hc
    go_enter Try.func11, Try.ntmps11
    go_wp2
    go_ret
    exact ⟨rfl, rfl⟩

set_option maxHeartbeats 4000000 in
/-- small. -/
theorem small_any (n : Nat) (hn : n < Q256) (w : World) :
    Calls Try.prog 23 #[W4 n] w fun e w' => e = .returned (.tuple #[.int .u64 (lb n 0 : Nat), .bool (decide (n ≤ 65536))]) ∧ Below w.heap.size w w' := by
  have c1 := fun W => Of_any (lb n 0) (lb_lt n 0) W
  by_cases hM : n < M64
  · obtain ⟨e0, e1, e2, e3⟩ := lb_small hM
    rw [e0] at c1
    have hl : W4 n = .agg #[.int .u64 (n : Nat), .int .u64 0, .int .u64 0, .int .u64 0] := by
      rw [W4, e0, e1, e2, e3]
      rfl
    rw [hl] at c1
    rw [hl, e0]
    have hd : decide ((n : Int) ≤ 65536) = decide (n ≤ 65536) := by rw [decide_eq_decide]; omega
    go_enter Try.func23, Try.ntmps23
    go_wp2
    refine wp_flow (fun k => ([1, 1, 1, 1, 1, 1, 1, 1, 1, 1, 1, 1, 1, 1] : List Nat).getD k 1) (Below (w.heap.size + 1)) _ (Below.drew (Below.refl _ _)) (by kernel_rfl) (by kernel_rfl) ?_
    (refine flow_quiet rfl rfl (fun K hK => ?_); apply Exists.intro; apply And.intro; (focus (intro w' hw'; have hc := (bcell hw').1; go_simp; (try go_bits); all_goals (first | exact rfl | exact ⟨rfl, hw'⟩))); go_simp; (try go_bits); refine hK _ ?_; clear hK K)
    (refine flow_quiet rfl rfl (fun K hK => ?_); apply Exists.intro; apply And.intro; (focus (intro w' hw'; have hc := (bcell hw').1; go_simp; (try go_bits); all_goals (first | exact rfl | exact ⟨rfl, hw'⟩))); go_simp; (try go_bits); refine hK _ ?_; clear hK K)
    (refine flow_quiet rfl rfl (fun K hK => ?_); apply Exists.intro; apply And.intro; (focus (intro w' hw'; have hc := (bcell hw').1; go_simp; (try go_bits); all_goals (first | exact rfl | exact ⟨rfl, hw'⟩))); go_simp; (try go_bits); refine hK _ ?_; clear hK K)
    (refine flow_quiet rfl rfl (fun K hK => ?_); apply Exists.intro; apply And.intro; (focus (intro w' hw'; have hc := (bcell hw').1; go_simp; (try go_bits); all_goals (first | exact rfl | exact ⟨rfl, hw'⟩))); go_simp; (try go_bits); refine hK _ ?_; clear hK K)
    (refine flow_quiet rfl rfl (fun K hK => ?_); apply Exists.intro; apply And.intro; (focus (intro w' hw'; have hc := (bcell hw').1; go_simp; (try go_bits); all_goals (first | exact rfl | exact ⟨rfl, hw'⟩))); go_simp; (try go_bits); refine hK _ ?_; clear hK K)
    first | (refine flow_quiet rfl rfl (fun K hK => ?_); apply Exists.intro; apply And.intro; (focus (intro w' hw'; have hc := (bcell hw').1; go_simp; (try go_bits); all_goals (go_at_call 37; with_reducible refine (c1 _).mono ?_; rintro e w2 ⟨rfl, hb⟩; exact ⟨rfl, hw'.trans (hb.mono (below_le hw' (by simp)))⟩))); go_simp; (try go_bits); refine hK _ ?_; clear hK K) | (refine flow_quiet rfl rfl (fun K hK => ?_); apply Exists.intro; apply And.intro; (focus (intro w' hw'; have hc := (bcell hw').1; go_simp; (try go_bits); all_goals (go_at_call 37; refine (c1 _).mono ?_; rintro e w2 ⟨rfl, hb⟩; exact ⟨rfl, hw'.trans (hb.mono (below_le hw' (by simp)))⟩))); go_simp; (try go_bits); refine hK _ ?_; clear hK K)
    (refine flow_quiet rfl rfl (fun K hK => ?_); apply Exists.intro; apply And.intro; (focus (intro w' hw'; have hc := (bcell hw').1; go_simp; (try go_bits); all_goals (first | exact rfl | exact ⟨rfl, hw'⟩))); go_simp; (try go_bits); refine hK _ ?_; clear hK K)
    (refine flow_quiet rfl rfl (fun K hK => ?_); apply Exists.intro; apply And.intro; (focus (intro w' hw'; have hc := (bcell hw').1; go_simp; (try go_bits); all_goals (first | exact rfl | exact ⟨rfl, hw'⟩))); go_simp; (try go_bits); refine hK _ ?_; clear hK K)
    first | (refine flow_skip rfl (fun K hK => ?_); go_simp; (try go_bits); refine hK _ ?_; clear hK K) | (refine flow_quiet rfl rfl (fun K hK => ?_); apply Exists.intro; apply And.intro; (focus (intro w' hw'; have hc := (bcell hw').1; go_simp; (try go_bits); all_goals (first | exact rfl | exact ⟨rfl, hw'⟩))); go_simp; (try go_bits); refine hK _ ?_; clear hK K)
    first | (refine flow_skip rfl (fun K hK => ?_); go_simp; (try go_bits); refine hK _ ?_; clear hK K) | (refine flow_quiet rfl rfl (fun K hK => ?_); apply Exists.intro; apply And.intro; (focus (intro w' hw'; have hc := (bcell hw').1; go_simp; (try go_bits); all_goals (first | exact rfl | exact ⟨rfl, hw'⟩))); go_simp; (try go_bits); refine hK _ ?_; clear hK K)
    first | (refine flow_skip rfl (fun K hK => ?_); go_simp; (try go_bits); refine hK _ ?_; clear hK K) | (refine flow_quiet rfl rfl (fun K hK => ?_); apply Exists.intro; apply And.intro; (focus (intro w' hw'; have hc := (bcell hw').1; go_simp; (try go_bits); all_goals (first | exact rfl | exact ⟨rfl, hw'⟩))); go_simp; (try go_bits); refine hK _ ?_; clear hK K)
    (refine flow_quiet rfl rfl (fun K hK => ?_); apply Exists.intro; apply And.intro; (focus (intro w' hw'; have hc := (bcell hw').1; go_simp; (try go_bits); all_goals (first | exact rfl | exact ⟨rfl, hw'⟩))); go_simp; (try go_bits); refine hK _ ?_; clear hK K)
    (refine flow_quiet rfl rfl (fun K hK => ?_); apply Exists.intro; apply And.intro; (focus (intro w' hw'; have hc := (bcell hw').1; go_simp; (try go_bits); all_goals (first | exact rfl | exact ⟨rfl, hw'⟩))); go_simp; (try go_bits); refine hK _ ?_; clear hK K)
    (refine flow_quiet rfl rfl (fun K hK => ?_); apply Exists.intro; apply And.intro; (focus (intro w' hw'; have hc := (bcell hw').1; go_simp; (try go_bits); all_goals (first | exact rfl | exact ⟨rfl, hw'⟩))); go_simp; (try go_bits); refine hK _ ?_; clear hK K)
    refine flow_nil ?_
    intro w' hw'
    go_wp2
    refine bodyPost_ret (by simp only [results, Try.results23]; go_simp; try rfl) rfl ⟨rfl, ((Below.refl _ _).alloc (Nat.le_refl _) _).trans (hw'.mono (by omega))⟩
  · have hd : decide (n ≤ 65536) = false := by simp; unfold M64 at hM; omega
    rw [hd]
    have hq := eqN hn (Nat.lt_trans (lb_lt n 0) (show M64 < Q256 by decide +kernel))
    have hne : n ≠ lb n 0 := fun h => hM (h ▸ lb_lt n 0)
    rw [decide_eq_false hne] at hq
    go_enter Try.func23, Try.ntmps23
    go_wp2
    refine wp_flow (fun k => ([1, 1, 1, 1, 1, 1, 1, 1, 1, 1, 1, 1, 1, 1] : List Nat).getD k 1) (Below (w.heap.size + 1)) _ (Below.drew (Below.refl _ _)) (by kernel_rfl) (by kernel_rfl) ?_
    (refine flow_quiet rfl rfl (fun K hK => ?_); apply Exists.intro; apply And.intro; (focus (intro w' hw'; have hc := (bcell hw').1; go_simp; (try go_bits); all_goals (first | exact rfl | exact ⟨rfl, hw'⟩))); go_simp; (try go_bits); refine hK _ ?_; clear hK K)
    (refine flow_quiet rfl rfl (fun K hK => ?_); apply Exists.intro; apply And.intro; (focus (intro w' hw'; have hc := (bcell hw').1; go_simp; (try go_bits); all_goals (first | exact rfl | exact ⟨rfl, hw'⟩))); go_simp; (try go_bits); refine hK _ ?_; clear hK K)
    (refine flow_quiet rfl rfl (fun K hK => ?_); apply Exists.intro; apply And.intro; (focus (intro w' hw'; have hc := (bcell hw').1; go_simp; (try go_bits); all_goals (first | exact rfl | exact ⟨rfl, hw'⟩))); go_simp; (try go_bits); refine hK _ ?_; clear hK K)
    (refine flow_quiet rfl rfl (fun K hK => ?_); apply Exists.intro; apply And.intro; (focus (intro w' hw'; have hc := (bcell hw').1; go_simp; (try go_bits); all_goals (first | exact rfl | exact ⟨rfl, hw'⟩))); go_simp; (try go_bits); refine hK _ ?_; clear hK K)
    (refine flow_quiet rfl rfl (fun K hK => ?_); apply Exists.intro; apply And.intro; (focus (intro w' hw'; have hc := (bcell hw').1; go_simp; (try go_bits); all_goals (first | exact rfl | exact ⟨rfl, hw'⟩))); go_simp; (try go_bits); refine hK _ ?_; clear hK K)
    first | (refine flow_quiet rfl rfl (fun K hK => ?_); apply Exists.intro; apply And.intro; (focus (intro w' hw'; have hc := (bcell hw').1; go_simp; (try go_bits); all_goals (go_at_call 37; with_reducible refine (c1 _).mono ?_; rintro e w2 ⟨rfl, hb⟩; exact ⟨rfl, hw'.trans (hb.mono (below_le hw' (by simp)))⟩))); go_simp; (try go_bits); refine hK _ ?_; clear hK K) | (refine flow_quiet rfl rfl (fun K hK => ?_); apply Exists.intro; apply And.intro; (focus (intro w' hw'; have hc := (bcell hw').1; go_simp; (try go_bits); all_goals (go_at_call 37; refine (c1 _).mono ?_; rintro e w2 ⟨rfl, hb⟩; exact ⟨rfl, hw'.trans (hb.mono (below_le hw' (by simp)))⟩))); go_simp; (try go_bits); refine hK _ ?_; clear hK K)
    (refine flow_quiet rfl rfl (fun K hK => ?_); apply Exists.intro; apply And.intro; (focus (intro w' hw'; have hc := (bcell hw').1; go_simp; (try go_bits); all_goals (first | exact rfl | exact ⟨rfl, hw'⟩))); go_simp; (try go_bits); refine hK _ ?_; clear hK K)
    (refine flow_quiet rfl rfl (fun K hK => ?_); apply Exists.intro; apply And.intro; (focus (intro w' hw'; have hc := (bcell hw').1; go_simp; (try go_bits); all_goals (first | exact rfl | exact ⟨rfl, hw'⟩))); go_simp; (try go_bits); refine hK _ ?_; clear hK K)
    first | (refine flow_skip rfl (fun K hK => ?_); go_simp; (try go_bits); refine hK _ ?_; clear hK K) | (refine flow_quiet rfl rfl (fun K hK => ?_); apply Exists.intro; apply And.intro; (focus (intro w' hw'; have hc := (bcell hw').1; go_simp; (try go_bits); all_goals (first | exact rfl | exact ⟨rfl, hw'⟩))); go_simp; (try go_bits); refine hK _ ?_; clear hK K)
    first | (refine flow_skip rfl (fun K hK => ?_); go_simp; (try go_bits); refine hK _ ?_; clear hK K) | (refine flow_quiet rfl rfl (fun K hK => ?_); apply Exists.intro; apply And.intro; (focus (intro w' hw'; have hc := (bcell hw').1; go_simp; (try go_bits); all_goals (first | exact rfl | exact ⟨rfl, hw'⟩))); go_simp; (try go_bits); refine hK _ ?_; clear hK K)
    first | (refine flow_skip rfl (fun K hK => ?_); go_simp; (try go_bits); refine hK _ ?_; clear hK K) | (refine flow_quiet rfl rfl (fun K hK => ?_); apply Exists.intro; apply And.intro; (focus (intro w' hw'; have hc := (bcell hw').1; go_simp; (try go_bits); all_goals (first | exact rfl | exact ⟨rfl, hw'⟩))); go_simp; (try go_bits); refine hK _ ?_; clear hK K)
    (refine flow_quiet rfl rfl (fun K hK => ?_); apply Exists.intro; apply And.intro; (focus (intro w' hw'; have hc := (bcell hw').1; go_simp; (try go_bits); all_goals (first | exact rfl | exact ⟨rfl, hw'⟩))); go_simp; (try go_bits); refine hK _ ?_; clear hK K)
    (refine flow_quiet rfl rfl (fun K hK => ?_); apply Exists.intro; apply And.intro; (focus (intro w' hw'; have hc := (bcell hw').1; go_simp; (try go_bits); all_goals (first | exact rfl | exact ⟨rfl, hw'⟩))); go_simp; (try go_bits); refine hK _ ?_; clear hK K)
    (refine flow_quiet rfl rfl (fun K hK => ?_); apply Exists.intro; apply And.intro; (focus (intro w' hw'; have hc := (bcell hw').1; go_simp; (try go_bits); all_goals (first | exact rfl | exact ⟨rfl, hw'⟩))); go_simp; (try go_bits); refine hK _ ?_; clear hK K)
    refine flow_nil ?_
    intro w' hw'
    go_wp2
    refine bodyPost_ret (by simp only [results, Try.results23]; go_simp; try rfl) rfl ⟨rfl, ((Below.refl _ _).alloc (Nat.le_refl _) _).trans (hw'.mono (by omega))⟩

set_option maxHeartbeats 4000000 in
/-- has. -/
theorem has_any (m : ByteArray) (off n : Nat) (hm : m.size ≤ maxLen) (ho : off < M64) (hn : n < M64) (w : World) :
    Calls Try.prog 25 #[.string m, .int .u64 (off : Nat), .int .u64 (n : Nat)] w fun e w' => e = .returned (.bool (decide (off + n ≤ m.size))) ∧ w' = w := by
  have hmax : maxLen = 9223372036854775807 := rfl
  by_cases h1 : off ≤ m.size
  · have h1i : (off : Int) ≤ (m.size : Int) := by omega
    have hd : decide ((n : Int) ≤ (m.size : Int) - (off : Int)) = decide (off + n ≤ m.size) := by rw [decide_eq_decide]; omega
    go_enter Try.func25, Try.ntmps25
    go_wp2
    go_ret
    exact ⟨rfl, rfl⟩
  · have h1i : ¬ (off : Int) ≤ (m.size : Int) := by omega
    have hd : decide (off + n ≤ m.size) = false := by simp; omega
    go_enter Try.func25, Try.ntmps25
    go_wp2
    go_ret
    exact ⟨rfl, rfl⟩

set_option maxHeartbeats 4000000 in
/-- cut. -/
theorem cut_any (m : ByteArray) (w : World) :
    Calls Try.prog 9 #[.string m] w fun e w' => e = .returned (.string (m.extract 0 (min m.size 10000))) ∧ w' = w := by
  by_cases h : 10000 < m.size
  · have hi : (10000 : Int) < (m.size : Int) := by omega
    rw [Nat.min_eq_right (by omega)]
    go_enter Try.func9, Try.ntmps9
    go_wp2
    go_ret
    exact ⟨rfl, rfl⟩
  · have hi : (m.size : Int) ≤ (10000 : Int) := by omega
    rw [Nat.min_eq_left (by omega), ByteArray.extract_zero_size]
    go_enter Try.func9, Try.ntmps9
    go_wp2
    go_ret
    exact ⟨rfl, rfl⟩
end Go.Proofs.Ytbgeenkkdfbngaa
