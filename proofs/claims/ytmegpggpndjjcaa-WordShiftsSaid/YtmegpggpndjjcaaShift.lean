/-
  Contracts of the shifts of package word. Conditions: none.
-/
import Derived.Test.YtmegpggpndjjcaaW3
import Derived.Test.YtmegpggpndjjcaaProd
namespace Go.Proofs.Ytmegpggpndjjcaa
open Go.RowKit
attribute [local go_sem] leftBy eqW guardW
set_option linter.unusedSimpArgs false
set_option linter.unusedVariables false


theorem lb_testBit (n i t : Nat) : (lb n i).testBit t = (decide (t < 64) && n.testBit (64 * i + t)) := by
  rw [lb_bits, Nat.testBit_mod_two_pow, Nat.testBit_div_two_pow, Nat.add_comm t]

theorem lb_high (n j k : Nat) : lb (n / M64 ^ j * M64 ^ j) k = if j ≤ k then lb n k else 0 := by
  unfold lb
  split
  · rename_i h
    obtain ⟨d, rfl⟩ : ∃ d, k = j + d := ⟨k - j, by omega⟩
    rw [Nat.pow_add, ← Nat.div_div_eq_div_mul, Nat.mul_div_cancel _ (Mj_pos j), Nat.div_div_eq_div_mul]
  · rename_i h
    obtain ⟨d, rfl⟩ : ∃ d, j = k + (d + 1) := ⟨j - k - 1, by omega⟩
    rw [Nat.pow_add M64 k (d + 1), Nat.mul_comm (M64 ^ k), ← Nat.mul_assoc, Nat.mul_div_cancel _ (Mj_pos k), Nat.pow_succ, ← Nat.mul_assoc, Nat.mul_mod_left]

theorem shl_limb {a n q r i : Nat} (hn : n = 64 * q + r) (hr : r < 64) (hi : q + i < 4) : lb (a * 2 ^ n % Q256) (q + i) = (lb a i * 2 ^ r % 2 ^ 64) ||| (if i = 0 then 0 else lb a (i - 1) / 2 ^ (64 - r)) := by
  refine Nat.eq_of_testBit_eq fun t => ?_
  rw [lb_testBit, Q256_pow, Nat.testBit_mod_two_pow, Nat.testBit_mul_two_pow, Nat.testBit_or, Nat.testBit_mod_two_pow, Nat.testBit_mul_two_pow, lb_testBit]
  by_cases ht : t < 64
  · have h1 : 64 * (q + i) + t < 256 := by omega
    by_cases hrt : r ≤ t
    · have h2 : n ≤ 64 * (q + i) + t := by omega
      have h3 : 64 * (q + i) + t - n = 64 * i + (t - r) := by omega
      have h4 : (if i = 0 then 0 else lb a (i - 1) / 2 ^ (64 - r)).testBit t = false := by
        split
        · simp
        · rw [Nat.testBit_div_two_pow, lb_testBit]
          have : ¬ (t + (64 - r) < 64) := by omega
          simp [this]
      have h5 : t - r < 64 := by omega
      rw [h4, h3]
      simp [ht, h1, h2, hrt, h5]
    · by_cases h0 : i = 0
      · subst h0
        have h2 : ¬ n ≤ 64 * (q + 0) + t := by omega
        simp [ht, hrt]
        omega
      · have h2 : n ≤ 64 * (q + i) + t := by omega
        have h3 : 64 * (q + i) + t - n = 64 * (i - 1) + (t + (64 - r)) := by omega
        rw [if_neg h0, Nat.testBit_div_two_pow, lb_testBit, h3]
        have h5 : t + (64 - r) < 64 := by omega
        simp [ht, h1, h2, hrt, h5]
  · have h4 : (if i = 0 then 0 else lb a (i - 1) / 2 ^ (64 - r)).testBit t = false := by
      split
      · simp
      · rw [Nat.testBit_div_two_pow, lb_testBit]
        have : ¬ (t + (64 - r) < 64) := by omega
        simp [this]
    rw [h4]
    simp [ht]

theorem rowW.storeL {t : TypeId} {W : World} {k n j v : Nat} (hj : j < 4) (hv : v < M64) (h : rowW t W k n) : rowW t (W.setCell ⟨k, j, none⟩ (.int .u64 (v : Nat))) k (setL n j v) := by
  have h1 : lb (setL n j v) j = v := by rw [lb_setL hv, if_pos rfl]
  have h2 := store_row (n' := setL n j v) hj h fun i _ hij => by rw [lb_setL hv, if_neg hij]
  rwa [h1] at h2

theorem high_row {t : TypeId} {W : World} {k T j v : Nat} (hj : j < 4) (h : rowW t W k (T / M64 ^ (j + 1) * M64 ^ (j + 1))) (hv : v = lb T j) : rowW t (W.setCell ⟨k, j, none⟩ (.int .u64 (v : Nat))) k (T / M64 ^ j * M64 ^ j) := by
  have h1 : lb (T / M64 ^ j * M64 ^ j) j = lb T j := by rw [lb_high, if_pos (Nat.le_refl _)]
  have h2 := store_row (n' := T / M64 ^ j * M64 ^ j) hj h fun i _ hij => by
    rw [lb_high, lb_high]
    by_cases h3 : j + 1 ≤ i
    · rw [if_pos h3, if_pos (by omega)]
    · rw [if_neg h3, if_neg (by omega)]
  rwa [h1, ← hv] at h2

theorem high_row2 {t : TypeId} {W : World} {k T j v u : Nat} (hj : j < 4) (h : rowW t W k (T / M64 ^ (j + 1) * M64 ^ (j + 1))) (hu : u < M64) (hv : v = lb T j) : rowW t ((W.setCell ⟨k, j, none⟩ (.int .u64 (u : Nat))).setCell ⟨k, j, none⟩ (.int .u64 (v : Nat))) k (T / M64 ^ j * M64 ^ j) := by
  have h0 := rowW.storeL hj hu h
  have h1 : lb (T / M64 ^ j * M64 ^ j) j = lb T j := by rw [lb_high, if_pos (Nat.le_refl _)]
  have h2 := store_row (n' := T / M64 ^ j * M64 ^ j) hj h0 fun i _ hij => by
    rw [lb_high, lb_setL hu, if_neg hij, lb_high]
    by_cases h3 : j + 1 ≤ i
    · rw [if_pos h3, if_pos (by omega)]
    · rw [if_neg h3, if_neg (by omega)]
  rwa [h1, ← hv] at h2

theorem high_top {T : Nat} (hT : T < Q256) : T / M64 ^ 4 * M64 ^ 4 = 0 := by rw [M64_four, Nat.div_eq_of_lt hT, Nat.zero_mul]
theorem high_all {a n q r : Nat} (hn : n = 64 * q + r) (h : n < 256) : a * 2 ^ n % Q256 / M64 ^ q * M64 ^ q = a * 2 ^ n % Q256 := by
  refine Nat.div_mul_cancel ?_
  rw [Q256_pow, M64_pow_i]
  have h1 : (2 : Nat) ^ (64 * q) ∣ a * 2 ^ n := Nat.dvd_trans (Nat.pow_dvd_pow 2 (by omega)) (Nat.dvd_mul_left _ _)
  have h2 : (2 : Nat) ^ (64 * q) ∣ 2 ^ 256 := Nat.pow_dvd_pow 2 (by omega)
  exact (Nat.dvd_mod_iff h2).2 h1

theorem lb_self {n : Nat} (h : n < M64) : lb n 0 = n := (lb_small h).1

attribute [local irreducible] lb

set_option maxHeartbeats 4000000 in
theorem small0 (a z : Nat) (e l : Bool) (hq : (((lb a 0 : Nat) : Int) == ((lb z 0 : Nat) : Int) && (((lb a 1 : Nat) : Int) == ((lb z 1 : Nat) : Int) && (((lb a 2 : Nat) : Int) == ((lb z 2 : Nat) : Int) && ((lb a 3 : Nat) : Int) == ((lb z 3 : Nat) : Int)))) = e)
    (hl : decide (((lb a 0 : Nat) : Int) < 256) = l)
    (c1 : ∀ W, Calls Try.prog 35 #[.int .u64 (lb a 0 : Nat)] W fun e w' => e = .returned (W4 z) ∧ Below W.heap.size W w') (w : World) :
    Calls Try.prog 70 #[W4 a] w fun e' w' => e' = .returned (.tuple #[.int .u64 (lb a 0 : Nat), .bool (e && l)]) ∧ Below w.heap.size w w' := by
  cases e
  · go_enter Try.func70, Try.ntmps70
    go_wp2
    refine wp_flow (fun k => ([1, 1, 1, 1, 1, 1, 1, 1, 1, 1, 1, 1, 1, 1] : List Nat).getD k 1) (Below (w.heap.size + 1)) _ (Below.drew (Below.refl _ _)) (by kernel_rfl) (by kernel_rfl) ?_
    (refine flow_quiet rfl rfl (fun K hK => ?_); apply Exists.intro; apply And.intro; (focus (intro w' hw'; have hc := (bcell hw').1; go_simp; (try go_bits); all_goals (first | exact rfl | exact ⟨rfl, hw'⟩))); go_simp; (try go_bits); refine hK _ ?_; clear hK K)
    (refine flow_quiet rfl rfl (fun K hK => ?_); apply Exists.intro; apply And.intro; (focus (intro w' hw'; have hc := (bcell hw').1; go_simp; (try go_bits); all_goals (first | exact rfl | exact ⟨rfl, hw'⟩))); go_simp; (try go_bits); refine hK _ ?_; clear hK K)
    (refine flow_quiet rfl rfl (fun K hK => ?_); apply Exists.intro; apply And.intro; (focus (intro w' hw'; have hc := (bcell hw').1; go_simp; (try go_bits); all_goals (first | exact rfl | exact ⟨rfl, hw'⟩))); go_simp; (try go_bits); refine hK _ ?_; clear hK K)
    (refine flow_quiet rfl rfl (fun K hK => ?_); apply Exists.intro; apply And.intro; (focus (intro w' hw'; have hc := (bcell hw').1; go_simp; (try go_bits); all_goals (first | exact rfl | exact ⟨rfl, hw'⟩))); go_simp; (try go_bits); refine hK _ ?_; clear hK K)
    (refine flow_quiet rfl rfl (fun K hK => ?_); apply Exists.intro; apply And.intro; (focus (intro w' hw'; have hc := (bcell hw').1; go_simp; (try go_bits); all_goals (first | exact rfl | exact ⟨rfl, hw'⟩))); go_simp; (try go_bits); refine hK _ ?_; clear hK K)
    first | (refine flow_quiet rfl rfl (fun K hK => ?_); apply Exists.intro; apply And.intro; (focus (intro w' hw'; have hc := (bcell hw').1; go_simp; (try go_bits); all_goals (go_at_call 35; with_reducible refine (c1 _).mono ?_; rintro e w2 ⟨rfl, hb⟩; exact ⟨rfl, hw'.trans (hb.mono (below_le hw' (by simp)))⟩))); go_simp; (try go_bits); refine hK _ ?_; clear hK K) | (refine flow_quiet rfl rfl (fun K hK => ?_); apply Exists.intro; apply And.intro; (focus (intro w' hw'; have hc := (bcell hw').1; go_simp; (try go_bits); all_goals (go_at_call 35; refine (c1 _).mono ?_; rintro e w2 ⟨rfl, hb⟩; exact ⟨rfl, hw'.trans (hb.mono (below_le hw' (by simp)))⟩))); go_simp; (try go_bits); refine hK _ ?_; clear hK K)
    (refine flow_quiet rfl rfl (fun K hK => ?_); apply Exists.intro; apply And.intro; (focus (intro w' hw'; have hc := (bcell hw').1; go_simp; (try go_bits); all_goals (first | exact rfl | exact ⟨rfl, hw'⟩))); go_simp; (try go_bits); refine hK _ ?_; clear hK K)
    (refine flow_quiet rfl rfl (fun K hK => ?_); apply Exists.intro; apply And.intro; (focus (intro w' hw'; have hc := (bcell hw').1; go_simp; (try go_bits); all_goals (first | exact rfl | exact ⟨rfl, hw'⟩))); go_simp; (try go_bits); refine hK _ ?_; clear hK K)
    first | (refine flow_skip rfl (fun K hK => ?_); go_simp; (try go_bits); refine hK _ ?_; clear hK K) | (refine flow_quiet rfl rfl (fun K hK => ?_); apply Exists.intro; apply And.intro; (focus (intro w' hw'; have hc := (bcell hw').1; go_simp; (try go_bits); all_goals (first | exact rfl | exact ⟨rfl, hw'⟩))); go_simp; (try go_bits); refine hK _ ?_; clear hK K)
    first | (refine flow_skip rfl (fun K hK => ?_); go_simp; (try go_bits); refine hK _ ?_; clear hK K) | (refine flow_quiet rfl rfl (fun K hK => ?_); apply Exists.intro; apply And.intro; (focus (intro w' hw'; have hc := (bcell hw').1; go_simp; (try go_bits); all_goals (first | exact rfl | exact ⟨rfl, hw'⟩))); go_simp; (try go_bits); refine hK _ ?_; clear hK K)
    first | (refine flow_skip rfl (fun K hK => ?_); go_simp; (try go_bits); refine hK _ ?_; clear hK K) | (refine flow_quiet rfl rfl (fun K hK => ?_); apply Exists.intro; apply And.intro; (focus (intro w' hw'; have hc := (bcell hw').1; go_simp; (try go_bits); all_goals (first | exact rfl | exact ⟨rfl, hw'⟩))); go_simp; (try go_bits); refine hK _ ?_; clear hK K)
    (refine flow_quiet rfl rfl (fun K hK => ?_); apply Exists.intro; apply And.intro; (focus (intro w' hw'; have hc := (bcell hw').1; go_simp; (try go_bits); all_goals (first | exact rfl | exact ⟨rfl, hw'⟩))); go_simp; (try go_bits); refine hK _ ?_; clear hK K)
    (refine flow_quiet rfl rfl (fun K hK => ?_); apply Exists.intro; apply And.intro; (focus (intro w' hw'; have hc := (bcell hw').1; go_simp; (try go_bits); all_goals (first | exact rfl | exact ⟨rfl, hw'⟩))); go_simp; (try go_bits); refine hK _ ?_; clear hK K)
    (refine flow_quiet rfl rfl (fun K hK => ?_); apply Exists.intro; apply And.intro; (focus (intro w' hw'; have hc := (bcell hw').1; go_simp; (try go_bits); all_goals (first | exact rfl | exact ⟨rfl, hw'⟩))); go_simp; (try go_bits); refine hK _ ?_; clear hK K)
    refine flow_nil ?_
    intro w' hw'
    have hc_w' := (bcell hw').1; have hf_w' := (bcell hw').2; have hz_w' : _ ≤ w'.heap.size := hw'.size; (try simp only [World.size_alloc, World.heap_drewN, World.size_setCell, heap_drew] at hc_w' hf_w' hz_w'); have hz_w'_w_0 : w.heap.size < w'.heap.size := (by omega)
    go_wp2
    refine bodyPost_ret (by simp only [results, Try.results70]; go_simp) rfl ⟨rfl, ?_⟩
    repeat (with_reducible first | exact Below.refl _ _ | assumption | refine below_drewN ?_ _ | refine Below.drew ?_ | refine Below.setCell ?_ (by first | omega | (simp; done) | (simp; omega)) _ | refine Below.alloc ?_ (by first | omega | (simp; done) | (simp; omega)) _ | refine Below.trans ?_ (Below.mono (by assumption) (by first | omega | (simp; done) | (simp; omega))))
  · cases l
    · go_enter Try.func70, Try.ntmps70
      go_wp2
      refine wp_flow (fun k => ([1, 1, 1, 1, 1, 1, 1, 1, 1, 1, 1, 1, 1, 1] : List Nat).getD k 1) (Below (w.heap.size + 1)) _ (Below.drew (Below.refl _ _)) (by kernel_rfl) (by kernel_rfl) ?_
      (refine flow_quiet rfl rfl (fun K hK => ?_); apply Exists.intro; apply And.intro; (focus (intro w' hw'; have hc := (bcell hw').1; go_simp; (try go_bits); all_goals (first | exact rfl | exact ⟨rfl, hw'⟩))); go_simp; (try go_bits); refine hK _ ?_; clear hK K)
      (refine flow_quiet rfl rfl (fun K hK => ?_); apply Exists.intro; apply And.intro; (focus (intro w' hw'; have hc := (bcell hw').1; go_simp; (try go_bits); all_goals (first | exact rfl | exact ⟨rfl, hw'⟩))); go_simp; (try go_bits); refine hK _ ?_; clear hK K)
      (refine flow_quiet rfl rfl (fun K hK => ?_); apply Exists.intro; apply And.intro; (focus (intro w' hw'; have hc := (bcell hw').1; go_simp; (try go_bits); all_goals (first | exact rfl | exact ⟨rfl, hw'⟩))); go_simp; (try go_bits); refine hK _ ?_; clear hK K)
      (refine flow_quiet rfl rfl (fun K hK => ?_); apply Exists.intro; apply And.intro; (focus (intro w' hw'; have hc := (bcell hw').1; go_simp; (try go_bits); all_goals (first | exact rfl | exact ⟨rfl, hw'⟩))); go_simp; (try go_bits); refine hK _ ?_; clear hK K)
      (refine flow_quiet rfl rfl (fun K hK => ?_); apply Exists.intro; apply And.intro; (focus (intro w' hw'; have hc := (bcell hw').1; go_simp; (try go_bits); all_goals (first | exact rfl | exact ⟨rfl, hw'⟩))); go_simp; (try go_bits); refine hK _ ?_; clear hK K)
      first | (refine flow_quiet rfl rfl (fun K hK => ?_); apply Exists.intro; apply And.intro; (focus (intro w' hw'; have hc := (bcell hw').1; go_simp; (try go_bits); all_goals (go_at_call 35; with_reducible refine (c1 _).mono ?_; rintro e w2 ⟨rfl, hb⟩; exact ⟨rfl, hw'.trans (hb.mono (below_le hw' (by simp)))⟩))); go_simp; (try go_bits); refine hK _ ?_; clear hK K) | (refine flow_quiet rfl rfl (fun K hK => ?_); apply Exists.intro; apply And.intro; (focus (intro w' hw'; have hc := (bcell hw').1; go_simp; (try go_bits); all_goals (go_at_call 35; refine (c1 _).mono ?_; rintro e w2 ⟨rfl, hb⟩; exact ⟨rfl, hw'.trans (hb.mono (below_le hw' (by simp)))⟩))); go_simp; (try go_bits); refine hK _ ?_; clear hK K)
      (refine flow_quiet rfl rfl (fun K hK => ?_); apply Exists.intro; apply And.intro; (focus (intro w' hw'; have hc := (bcell hw').1; go_simp; (try go_bits); all_goals (first | exact rfl | exact ⟨rfl, hw'⟩))); go_simp; (try go_bits); refine hK _ ?_; clear hK K)
      (refine flow_quiet rfl rfl (fun K hK => ?_); apply Exists.intro; apply And.intro; (focus (intro w' hw'; have hc := (bcell hw').1; go_simp; (try go_bits); all_goals (first | exact rfl | exact ⟨rfl, hw'⟩))); go_simp; (try go_bits); refine hK _ ?_; clear hK K)
      first | (refine flow_skip rfl (fun K hK => ?_); go_simp; (try go_bits); refine hK _ ?_; clear hK K) | (refine flow_quiet rfl rfl (fun K hK => ?_); apply Exists.intro; apply And.intro; (focus (intro w' hw'; have hc := (bcell hw').1; go_simp; (try go_bits); all_goals (first | exact rfl | exact ⟨rfl, hw'⟩))); go_simp; (try go_bits); refine hK _ ?_; clear hK K)
      first | (refine flow_skip rfl (fun K hK => ?_); go_simp; (try go_bits); refine hK _ ?_; clear hK K) | (refine flow_quiet rfl rfl (fun K hK => ?_); apply Exists.intro; apply And.intro; (focus (intro w' hw'; have hc := (bcell hw').1; go_simp; (try go_bits); all_goals (first | exact rfl | exact ⟨rfl, hw'⟩))); go_simp; (try go_bits); refine hK _ ?_; clear hK K)
      first | (refine flow_skip rfl (fun K hK => ?_); go_simp; (try go_bits); refine hK _ ?_; clear hK K) | (refine flow_quiet rfl rfl (fun K hK => ?_); apply Exists.intro; apply And.intro; (focus (intro w' hw'; have hc := (bcell hw').1; go_simp; (try go_bits); all_goals (first | exact rfl | exact ⟨rfl, hw'⟩))); go_simp; (try go_bits); refine hK _ ?_; clear hK K)
      (refine flow_quiet rfl rfl (fun K hK => ?_); apply Exists.intro; apply And.intro; (focus (intro w' hw'; have hc := (bcell hw').1; go_simp; (try go_bits); all_goals (first | exact rfl | exact ⟨rfl, hw'⟩))); go_simp; (try go_bits); refine hK _ ?_; clear hK K)
      (refine flow_quiet rfl rfl (fun K hK => ?_); apply Exists.intro; apply And.intro; (focus (intro w' hw'; have hc := (bcell hw').1; go_simp; (try go_bits); all_goals (first | exact rfl | exact ⟨rfl, hw'⟩))); go_simp; (try go_bits); refine hK _ ?_; clear hK K)
      (refine flow_quiet rfl rfl (fun K hK => ?_); apply Exists.intro; apply And.intro; (focus (intro w' hw'; have hc := (bcell hw').1; go_simp; (try go_bits); all_goals (first | exact rfl | exact ⟨rfl, hw'⟩))); go_simp; (try go_bits); refine hK _ ?_; clear hK K)
      refine flow_nil ?_
      intro w' hw'
      have hc_w' := (bcell hw').1; have hf_w' := (bcell hw').2; have hz_w' : _ ≤ w'.heap.size := hw'.size; (try simp only [World.size_alloc, World.heap_drewN, World.size_setCell, heap_drew] at hc_w' hf_w' hz_w'); have hz_w'_w_0 : w.heap.size < w'.heap.size := (by omega)
      go_wp2
      refine bodyPost_ret (by simp only [results, Try.results70]; go_simp) rfl ⟨rfl, ?_⟩
      repeat (with_reducible first | exact Below.refl _ _ | assumption | refine below_drewN ?_ _ | refine Below.drew ?_ | refine Below.setCell ?_ (by first | omega | (simp; done) | (simp; omega)) _ | refine Below.alloc ?_ (by first | omega | (simp; done) | (simp; omega)) _ | refine Below.trans ?_ (Below.mono (by assumption) (by first | omega | (simp; done) | (simp; omega))))
    · go_enter Try.func70, Try.ntmps70
      go_wp2
      refine wp_flow (fun k => ([1, 1, 1, 1, 1, 1, 1, 1, 1, 1, 1, 1, 1, 1] : List Nat).getD k 1) (Below (w.heap.size + 1)) _ (Below.drew (Below.refl _ _)) (by kernel_rfl) (by kernel_rfl) ?_
      (refine flow_quiet rfl rfl (fun K hK => ?_); apply Exists.intro; apply And.intro; (focus (intro w' hw'; have hc := (bcell hw').1; go_simp; (try go_bits); all_goals (first | exact rfl | exact ⟨rfl, hw'⟩))); go_simp; (try go_bits); refine hK _ ?_; clear hK K)
      (refine flow_quiet rfl rfl (fun K hK => ?_); apply Exists.intro; apply And.intro; (focus (intro w' hw'; have hc := (bcell hw').1; go_simp; (try go_bits); all_goals (first | exact rfl | exact ⟨rfl, hw'⟩))); go_simp; (try go_bits); refine hK _ ?_; clear hK K)
      (refine flow_quiet rfl rfl (fun K hK => ?_); apply Exists.intro; apply And.intro; (focus (intro w' hw'; have hc := (bcell hw').1; go_simp; (try go_bits); all_goals (first | exact rfl | exact ⟨rfl, hw'⟩))); go_simp; (try go_bits); refine hK _ ?_; clear hK K)
      (refine flow_quiet rfl rfl (fun K hK => ?_); apply Exists.intro; apply And.intro; (focus (intro w' hw'; have hc := (bcell hw').1; go_simp; (try go_bits); all_goals (first | exact rfl | exact ⟨rfl, hw'⟩))); go_simp; (try go_bits); refine hK _ ?_; clear hK K)
      (refine flow_quiet rfl rfl (fun K hK => ?_); apply Exists.intro; apply And.intro; (focus (intro w' hw'; have hc := (bcell hw').1; go_simp; (try go_bits); all_goals (first | exact rfl | exact ⟨rfl, hw'⟩))); go_simp; (try go_bits); refine hK _ ?_; clear hK K)
      first | (refine flow_quiet rfl rfl (fun K hK => ?_); apply Exists.intro; apply And.intro; (focus (intro w' hw'; have hc := (bcell hw').1; go_simp; (try go_bits); all_goals (go_at_call 35; with_reducible refine (c1 _).mono ?_; rintro e w2 ⟨rfl, hb⟩; exact ⟨rfl, hw'.trans (hb.mono (below_le hw' (by simp)))⟩))); go_simp; (try go_bits); refine hK _ ?_; clear hK K) | (refine flow_quiet rfl rfl (fun K hK => ?_); apply Exists.intro; apply And.intro; (focus (intro w' hw'; have hc := (bcell hw').1; go_simp; (try go_bits); all_goals (go_at_call 35; refine (c1 _).mono ?_; rintro e w2 ⟨rfl, hb⟩; exact ⟨rfl, hw'.trans (hb.mono (below_le hw' (by simp)))⟩))); go_simp; (try go_bits); refine hK _ ?_; clear hK K)
      (refine flow_quiet rfl rfl (fun K hK => ?_); apply Exists.intro; apply And.intro; (focus (intro w' hw'; have hc := (bcell hw').1; go_simp; (try go_bits); all_goals (first | exact rfl | exact ⟨rfl, hw'⟩))); go_simp; (try go_bits); refine hK _ ?_; clear hK K)
      (refine flow_quiet rfl rfl (fun K hK => ?_); apply Exists.intro; apply And.intro; (focus (intro w' hw'; have hc := (bcell hw').1; go_simp; (try go_bits); all_goals (first | exact rfl | exact ⟨rfl, hw'⟩))); go_simp; (try go_bits); refine hK _ ?_; clear hK K)
      first | (refine flow_skip rfl (fun K hK => ?_); go_simp; (try go_bits); refine hK _ ?_; clear hK K) | (refine flow_quiet rfl rfl (fun K hK => ?_); apply Exists.intro; apply And.intro; (focus (intro w' hw'; have hc := (bcell hw').1; go_simp; (try go_bits); all_goals (first | exact rfl | exact ⟨rfl, hw'⟩))); go_simp; (try go_bits); refine hK _ ?_; clear hK K)
      first | (refine flow_skip rfl (fun K hK => ?_); go_simp; (try go_bits); refine hK _ ?_; clear hK K) | (refine flow_quiet rfl rfl (fun K hK => ?_); apply Exists.intro; apply And.intro; (focus (intro w' hw'; have hc := (bcell hw').1; go_simp; (try go_bits); all_goals (first | exact rfl | exact ⟨rfl, hw'⟩))); go_simp; (try go_bits); refine hK _ ?_; clear hK K)
      first | (refine flow_skip rfl (fun K hK => ?_); go_simp; (try go_bits); refine hK _ ?_; clear hK K) | (refine flow_quiet rfl rfl (fun K hK => ?_); apply Exists.intro; apply And.intro; (focus (intro w' hw'; have hc := (bcell hw').1; go_simp; (try go_bits); all_goals (first | exact rfl | exact ⟨rfl, hw'⟩))); go_simp; (try go_bits); refine hK _ ?_; clear hK K)
      (refine flow_quiet rfl rfl (fun K hK => ?_); apply Exists.intro; apply And.intro; (focus (intro w' hw'; have hc := (bcell hw').1; go_simp; (try go_bits); all_goals (first | exact rfl | exact ⟨rfl, hw'⟩))); go_simp; (try go_bits); refine hK _ ?_; clear hK K)
      (refine flow_quiet rfl rfl (fun K hK => ?_); apply Exists.intro; apply And.intro; (focus (intro w' hw'; have hc := (bcell hw').1; go_simp; (try go_bits); all_goals (first | exact rfl | exact ⟨rfl, hw'⟩))); go_simp; (try go_bits); refine hK _ ?_; clear hK K)
      (refine flow_quiet rfl rfl (fun K hK => ?_); apply Exists.intro; apply And.intro; (focus (intro w' hw'; have hc := (bcell hw').1; go_simp; (try go_bits); all_goals (first | exact rfl | exact ⟨rfl, hw'⟩))); go_simp; (try go_bits); refine hK _ ?_; clear hK K)
      refine flow_nil ?_
      intro w' hw'
      have hc_w' := (bcell hw').1; have hf_w' := (bcell hw').2; have hz_w' : _ ≤ w'.heap.size := hw'.size; (try simp only [World.size_alloc, World.heap_drewN, World.size_setCell, heap_drew] at hc_w' hf_w' hz_w'); have hz_w'_w_0 : w.heap.size < w'.heap.size := (by omega)
      go_wp2
      refine bodyPost_ret (by simp only [results, Try.results70]; go_simp) rfl ⟨rfl, ?_⟩
      repeat (with_reducible first | exact Below.refl _ _ | assumption | refine below_drewN ?_ _ | refine Below.drew ?_ | refine Below.setCell ?_ (by first | omega | (simp; done) | (simp; omega)) _ | refine Below.alloc ?_ (by first | omega | (simp; done) | (simp; omega)) _ | refine Below.trans ?_ (Below.mono (by assumption) (by first | omega | (simp; done) | (simp; omega))))

theorem small_any (a : Nat) (ha : a < Q256) (w : World) :
    Calls Try.prog 70 #[W4 a] w fun e w' => e = .returned (.tuple #[.int .u64 (lb a 0 : Nat), .bool (decide (a < 256))]) ∧ Below w.heap.size w w' := by
  have hz : lb a 0 < Q256 := Nat.lt_trans (lb_lt a 0) (by decide +kernel)
  have h := small0 a (lb a 0) _ _ (eqN ha hz) rfl (fun W => Of_any (lb a 0) (lb_lt a 0) W) w
  have e : (decide (a = lb a 0) && decide (((lb a 0 : Nat) : Int) < 256)) = decide (a < 256) := by
    refine Bool.eq_iff_iff.2 ?_
    simp only [Bool.and_eq_true, decide_eq_true_iff]
    constructor
    · rintro ⟨h1, h2⟩; omega
    · intro h1
      have := lb_self (n := a) (by unfold M64; omega)
      omega
  rw [e] at h
  exact h

/-- Shifted up. -/
def shlW (n a : Nat) : Nat := if n < 256 then a * 2 ^ n % Q256 else 0
theorem shlW_lt (n a : Nat) : shlW n a < Q256 := by
  unfold shlW
  split
  · exact Nat.mod_lt _ Q256_pos
  · exact Q256_pos

attribute [local irreducible] shlW

set_option maxRecDepth 100000 in
set_option maxHeartbeats 4000000 in
theorem Shl_any (n a : Nat) (hn : n < Q256) (ha : a < Q256) (w : World) :
    Calls Try.prog 38 #[W4 n, W4 a] w fun e w' => e = .returned (W4 (shlW n a)) ∧ Below w.heap.size w w' := by
  have c1 := fun W => small_any n hn W
  by_cases h256 : n < 256
  · rw [show decide (n < 256) = true from by simpa using h256, lb_self (show n < M64 by unfold M64; omega)] at c1
    rw [show shlW n a = a * 2 ^ n % Q256 from by unfold shlW; rw [if_pos h256]]
    obtain ⟨T, hT⟩ : ∃ T, T = a * 2 ^ n % Q256 := ⟨_, rfl⟩
    rw [← hT]
    have HT' := Lib.hid hT
    clear hT
    go_enter Try.func38, Try.ntmps38
    go_wp2_with (go_at_call 70; refine (c1 _).mono ?_; rintro e wa ⟨rfl, hb_wa⟩; have hc_wa := (bcell hb_wa).1; have hf_wa := (bcell hb_wa).2; have hz_wa : _ ≤ wa.heap.size := hb_wa.size; (try simp only [World.size_alloc, World.heap_drewN, World.size_setCell, heap_drew] at hc_wa hf_wa hz_wa); have hz_wa_w_0 : w.heap.size < wa.heap.size := (by omega); have hz_wa_w_1 : w.heap.size + 1 < wa.heap.size := (by omega); have hz_wa_w_2 : w.heap.size + 1 + 1 < wa.heap.size := (by omega); have hz_wa_w_3 : w.heap.size + 1 + 1 + 1 < wa.heap.size := (by omega))
    go_loopw [8] (fun i wr => ∃ j : Nat, n / 64 ≤ j ∧ j ≤ 4 ∧ i = .int .i64 ((j : Int) - 1) ∧ rowW 24 wr (w.heap.size + 1 + 1 + 1) (T / M64 ^ j * M64 ^ j) ∧ rowW 24 wr (w.heap.size + 1) a ∧ rowW 24 wr (w.heap.size + 1 + 1) 0 ∧ Below w.heap.size w wr)
      (fun i _ => (intOf i + 1).toNat)
    case atStart =>
      refine ⟨4, by omega, by omega, by go_num, ?_, ?_, ?_, ?_⟩
      · rw [high_top (HT'.out ▸ Nat.mod_lt _ Q256_pos)]
        exact (rowW.new0 (by simp)).below hb_wa (by simp)
      · exact (((rowW.new (by simp)).alloc _).alloc _).below hb_wa (by simp)
      · exact ((rowW.new0 (by simp)).alloc _).below hb_wa (by simp)
      · skip
        repeat (with_reducible first | exact Below.refl _ _ | assumption | refine below_drewN ?_ _ | refine Below.drew ?_ | refine Below.setCell ?_ (by first | omega | (simp; done) | (simp; omega)) _ | refine Below.alloc ?_ (by first | omega | (simp; done) | (simp; omega)) _ | refine Below.trans ?_ (Below.mono (by assumption) (by first | omega | (simp; done) | (simp; omega))))
    case round =>
      obtain ⟨j, hq, hj, rfl, hrow, ra, hres, hbel⟩ := hrel
      have hsz := hrow.lt
      have hrf := hrow.cells.2.2.2.2
      have hq4 : n / 64 < 4 := by omega
      have hk1 : ((n : Nat) : Int) / 64 = ((n / 64 : Nat) : Int) := by omega
      have hk2 : ((n : Nat) : Int) % 64 = ((n % 64 : Nat) : Int) := by omega
      generalize hQ : n / 64 = q at *
      generalize hR : n % 64 = r at *
      have hr64 : r < 64 := by omega
      by_cases hjq : j = q
      · subst hjq
        rw [HT'.out, high_all (n := n) (q := j) (r := r) (by omega) h256, ← HT'.out] at hrow
        obtain ⟨t0, t1, t2, t3, tf⟩ := hrow.cells
        obtain ⟨z0, z1, z2, z3, zf⟩ := hres.cells
        have hjj : ¬ ((j : Nat) : Int) ≤ ((j : Nat) : Int) - 1 := by omega
        clear hrow hrf
        go_wp2
        refine bodyPost_ret (by simp only [results, Try.results38]; go_simp) rfl ⟨rfl, ?_⟩
        repeat (with_reducible first | exact Below.refl _ _ | assumption | refine below_drewN ?_ _ | refine Below.drew ?_ | refine Below.setCell ?_ (by first | omega | (simp; done) | (simp; omega)) _ | refine Below.alloc ?_ (by first | omega | (simp; done) | (simp; omega)) _ | refine Below.trans ?_ (Below.mono (by assumption) (by first | omega | (simp; done) | (simp; omega))))
      · obtain ⟨m, rfl⟩ : ∃ m, j = m + 1 := ⟨j - 1, by omega⟩
        obtain ⟨i, hi⟩ : ∃ i, i = m - q := ⟨_, rfl⟩
        have e1 : ((m + 1 : Nat) : Int) - 1 = ((m : Nat) : Int) := by omega
        rw [e1]
        have ci := ra.cellAt (j := i) (by omega)
        have co := hrow.cellAt (j := m) (by omega)
        have hlimb := shl_limb (a := a) (n := n) (q := q) (r := r) (i := i) (by omega) hr64 (by omega)
        rw [← HT'.out, show q + i = m by omega] at hlimb
        have hw1 : IntKind.u64.wrap (((lb a i : Nat) : Int) * 2 ^ r) = ((lb a i * 2 ^ r % 2 ^ 64 : Nat) : Int) := by
          have e : ((lb a i : Nat) : Int) * 2 ^ r = ((lb a i * 2 ^ r : Nat) : Int) := by push_cast; rfl
          rw [e, u64_wrap_mod]
        have hxl : lb a i * 2 ^ r % 2 ^ 64 < M64 := Nat.mod_lt _ (by decide)
        have hmi : ((m : Nat) : Int) - ((q : Nat) : Int) = ((i : Nat) : Int) := by omega
        have hqm : ((q : Nat) : Int) ≤ ((m : Nat) : Int) := by omega
        by_cases hi0 : i = 0
        · have hi0' : ¬ 0 < ((i : Nat) : Int) := by omega
          rw [if_pos hi0, Nat.or_zero] at hlimb
          generalize lb a i * 2 ^ r % 2 ^ 64 = x at *
          have hqm' : q ≤ m := by omega
          clear hi hi0
          go_wp2
          go_roundw
          case rel =>
            refine ⟨m, hqm', by omega, rfl, high_row (by omega) hrow hlimb.symm, ra.set (by omega), hres.set (by omega), ?_⟩
            repeat (with_reducible first | exact Below.refl _ _ | assumption | refine below_drewN ?_ _ | refine Below.drew ?_ | refine Below.setCell ?_ (by first | omega | (simp; done) | (simp; omega)) _ | refine Below.alloc ?_ (by first | omega | (simp; done) | (simp; omega)) _ | refine Below.trans ?_ (Below.mono (by assumption) (by first | omega | (simp; done) | (simp; omega))))
          case measure => simp [intOf]
        · have hi0' : 0 < ((i : Nat) : Int) := by omega
          have hi1 : ((i : Nat) : Int) - 1 = ((i - 1 : Nat) : Int) := by omega
          have ci' := ra.cellAt (j := i - 1) (by omega)
          rw [if_neg hi0] at hlimb
          generalize lb a i * 2 ^ r % 2 ^ 64 = x at *
          generalize i - 1 = p at *
          have hx3 : ((p : Nat) : Int) < 4 := by omega
          have hx4 : ((m : Nat) : Int) < 4 := by omega
          have hx5 : ((r : Nat) : Int) < 64 := by omega
          have hqm' : q ≤ m := by omega
          have hor : bits .or .u64 ((x : Nat) : Int) (((lb a p : Nat) : Int) / 2 ^ (64 - r)) = ((lb T m : Nat) : Int) := by
            have e : ((lb a p : Nat) : Int) / 2 ^ (64 - r) = ((lb a p / 2 ^ (64 - r) : Nat) : Int) := by push_cast; rfl
            rw [e, u64_or_nat _ _ hxl (Nat.lt_of_le_of_lt (Nat.div_le_self _ _) (lb_lt a p)), hlimb]
          clear hi hi0 hlimb
          go_wp2
          first | refine wp_flow (fun k => ([1, 1, 1, 1, 1, 1, 1, 1, 1, 1, 1, 1, 1, 2] : List Nat).getD k 1) Dr _ (Dr.next _ _) (by kernel_rfl) (by kernel_rfl) ?_ | refine wp_flow (fun k => ([1, 1, 1, 1, 1, 1, 1, 1, 1, 1, 1, 1, 1, 2] : List Nat).getD k 1) Dr _ (Dr.one _) (by kernel_rfl) (by kernel_rfl) ?_
          (refine flow_quiet rfl rfl (fun K hK => ?_); apply Exists.intro; apply And.intro; (focus (rintro w' ⟨nn, rfl⟩; go_simp; (try go_bits); exact ⟨rfl, Dr.of _ _⟩)); go_simp; (try go_bits); refine hK _ ?_; clear hK K)
          (refine flow_quiet rfl rfl (fun K hK => ?_); apply Exists.intro; apply And.intro; (focus (rintro w' ⟨nn, rfl⟩; go_simp; (try go_bits); exact ⟨rfl, Dr.of _ _⟩)); go_simp; (try go_bits); refine hK _ ?_; clear hK K)
          (refine flow_quiet rfl rfl (fun K hK => ?_); apply Exists.intro; apply And.intro; (focus (rintro w' ⟨nn, rfl⟩; go_simp; (try go_bits); exact ⟨rfl, Dr.of _ _⟩)); go_simp; (try go_bits); refine hK _ ?_; clear hK K)
          (refine flow_quiet rfl rfl (fun K hK => ?_); apply Exists.intro; apply And.intro; (focus (rintro w' ⟨nn, rfl⟩; go_simp; (try go_bits); exact ⟨rfl, Dr.of _ _⟩)); go_simp; (try go_bits); refine hK _ ?_; clear hK K)
          (refine flow_quiet rfl rfl (fun K hK => ?_); apply Exists.intro; apply And.intro; (focus (rintro w' ⟨nn, rfl⟩; go_simp; (try go_bits); exact ⟨rfl, Dr.of _ _⟩)); go_simp; (try go_bits); refine hK _ ?_; clear hK K)
          (refine flow_quiet rfl rfl (fun K hK => ?_); apply Exists.intro; apply And.intro; (focus (rintro w' ⟨nn, rfl⟩; go_simp; (try go_bits); exact ⟨rfl, Dr.of _ _⟩)); go_simp; (try go_bits); refine hK _ ?_; clear hK K)
          (refine flow_quiet rfl rfl (fun K hK => ?_); apply Exists.intro; apply And.intro; (focus (rintro w' ⟨nn, rfl⟩; go_simp; (try go_bits); exact ⟨rfl, Dr.of _ _⟩)); go_simp; (try go_bits); refine hK _ ?_; clear hK K)
          (refine flow_quiet rfl rfl (fun K hK => ?_); apply Exists.intro; apply And.intro; (focus (rintro w' ⟨nn, rfl⟩; go_simp; (try go_bits); exact ⟨rfl, Dr.of _ _⟩)); go_simp; (try go_bits); refine hK _ ?_; clear hK K)
          (refine flow_quiet rfl rfl (fun K hK => ?_); apply Exists.intro; apply And.intro; (focus (rintro w' ⟨nn, rfl⟩; go_simp; (try go_bits); exact ⟨rfl, Dr.of _ _⟩)); go_simp; (try go_bits); refine hK _ ?_; clear hK K)
          (refine flow_quiet rfl rfl (fun K hK => ?_); apply Exists.intro; apply And.intro; (focus (rintro w' ⟨nn, rfl⟩; go_simp; (try go_bits); exact ⟨rfl, Dr.of _ _⟩)); go_simp; (try go_bits); refine hK _ ?_; clear hK K)
          (refine flow_quiet rfl rfl (fun K hK => ?_); apply Exists.intro; apply And.intro; (focus (rintro w' ⟨nn, rfl⟩; go_simp; (try go_bits); exact ⟨rfl, Dr.of _ _⟩)); go_simp; (try go_bits); refine hK _ ?_; clear hK K)
          (refine flow_quiet rfl rfl (fun K hK => ?_); apply Exists.intro; apply And.intro; (focus (rintro w' ⟨nn, rfl⟩; go_simp; (try go_bits); exact ⟨rfl, Dr.of _ _⟩)); go_simp; (try go_bits); refine hK _ ?_; clear hK K)
          (refine flow_quiet rfl rfl (fun K hK => ?_); apply Exists.intro; apply And.intro; (focus (rintro w' ⟨nn, rfl⟩; go_simp; (try go_bits); exact ⟨rfl, Dr.of _ _⟩)); go_simp; (try go_bits); refine hK _ ?_; clear hK K)
          (refine flow_eff rfl rfl (fun K hK => ?_); apply Exists.intro; apply Exists.intro; apply And.intro; (focus (rintro w' ⟨nn, rfl⟩; go_simp; (try go_bits); refine ⟨rfl, ?_⟩; with_reducible first | exact Dr.store _ _ _ _ | exact Dr.store4 _ _ _ _ _ _ _ _ _ _)); go_simp; (try go_bits); refine hK _ _ ?_; clear hK K)
          refine flow_nil ?_
          rintro w' ⟨nq, rfl⟩
          go_wp2
          go_roundw
          case rel =>
            refine ⟨m, hqm', by omega, rfl, (high_row2 (by omega) hrow hxl rfl).drewN _, ((ra.set (by omega)).set (by omega)).drewN _, ((hres.set (by omega)).set (by omega)).drewN _, ?_⟩
            repeat (with_reducible first | exact Below.refl _ _ | assumption | refine below_drewN ?_ _ | refine Below.drew ?_ | refine Below.setCell ?_ (by first | omega | (simp; done) | (simp; omega)) _ | refine Below.alloc ?_ (by first | omega | (simp; done) | (simp; omega)) _ | refine Below.trans ?_ (Below.mono (by assumption) (by first | omega | (simp; done) | (simp; omega))))
          case measure => simp [intOf]
  · rw [show decide (n < 256) = false from by simpa using h256] at c1
    rw [show shlW n a = 0 from by unfold shlW; rw [if_neg h256], W4_zero]
    go_enter Try.func38, Try.ntmps38
    go_wp2_with (go_at_call 70; refine (c1 _).mono ?_; rintro e wa ⟨rfl, hb_wa⟩; have hc_wa := (bcell hb_wa).1; have hf_wa := (bcell hb_wa).2; have hz_wa : _ ≤ wa.heap.size := hb_wa.size; (try simp only [World.size_alloc, World.heap_drewN, World.size_setCell, heap_drew] at hc_wa hf_wa hz_wa); have hz_wa_w_0 : w.heap.size < wa.heap.size := (by omega); have hz_wa_w_1 : w.heap.size + 1 < wa.heap.size := (by omega); have hz_wa_w_2 : w.heap.size + 1 + 1 < wa.heap.size := (by omega); have hz_wa_w_3 : w.heap.size + 1 + 1 + 1 < wa.heap.size := (by omega))
    refine bodyPost_ret (by simp only [results, Try.results38]; go_simp) rfl ⟨rfl, ?_⟩
    repeat (with_reducible first | exact Below.refl _ _ | assumption | refine below_drewN ?_ _ | refine Below.drew ?_ | refine Below.setCell ?_ (by first | omega | (simp; done) | (simp; omega)) _ | refine Below.alloc ?_ (by first | omega | (simp; done) | (simp; omega)) _ | refine Below.trans ?_ (Below.mono (by assumption) (by first | omega | (simp; done) | (simp; omega))))
end Go.Proofs.Ytmegpggpndjjcaa
