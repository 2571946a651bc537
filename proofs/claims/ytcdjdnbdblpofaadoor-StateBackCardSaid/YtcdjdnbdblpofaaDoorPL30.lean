/-
  The document's Add, Sub, Less of words, taken out of the seat of the word laws: what each returns, in numbers below 2^256. Conditions: none.
-/
import Derived.Test.YtcdjdnbdblpofaaDoorWS
import Derived.Test.YtcdjdnbdblpofaaDoorPL14
import Derived.Test.YtcdjdnbdblpofaaDoorRange
namespace Go.Proofs.YtcdjdnbdblpofaaDoor
open Go.RowKit
attribute [local go_sem] leftBy
set_option linter.unusedSimpArgs false


/-- What is carried into part j of a sum. -/
def cry (a b j : Nat) : Nat := (a % M64 ^ j + b % M64 ^ j) / M64 ^ j
/-- A sum's lowest j parts. -/
def par (a b j : Nat) : Nat := (a + b) % M64 ^ j

theorem Mj_pos (j : Nat) : 0 < M64 ^ j := Nat.pow_pos M64_pos

theorem cry_le (a b j : Nat) : cry a b j ≤ 1 := by
  unfold cry
  have h1 := Nat.mod_lt a (Mj_pos j)
  have h2 := Nat.mod_lt b (Mj_pos j)
  have : (a % M64 ^ j + b % M64 ^ j) / M64 ^ j < 2 := (Nat.div_lt_iff_lt_mul (Mj_pos j)).2 (by omega)
  omega

theorem cry_zero (a b : Nat) : cry a b 0 = 0 := by unfold cry; simp [Nat.mod_one]

theorem cry_succ (a b j : Nat) : cry a b (j + 1) = (lb a j + lb b j + cry a b j) / M64 := by
  unfold cry lb
  rw [Nat.mod_pow_succ, Nat.mod_pow_succ, Nat.pow_succ, ← Nat.div_div_eq_div_mul]
  congr 1
  have e : a % M64 ^ j + M64 ^ j * (a / M64 ^ j % M64) + (b % M64 ^ j + M64 ^ j * (b / M64 ^ j % M64)) = (a % M64 ^ j + b % M64 ^ j) + M64 ^ j * (a / M64 ^ j % M64 + b / M64 ^ j % M64) := by
    rw [Nat.mul_add]; omega
  rw [e, Nat.add_mul_div_left _ _ (Mj_pos j)]
  omega

theorem lb_sum (a b j : Nat) : lb (a + b) j = (lb a j + lb b j + cry a b j) % M64 := by
  unfold lb cry
  have e : a + b = (a % M64 ^ j + b % M64 ^ j) + M64 ^ j * (a / M64 ^ j + b / M64 ^ j) := by
    have h1 := Nat.mod_add_div a (M64 ^ j)
    have h2 := Nat.mod_add_div b (M64 ^ j)
    rw [Nat.mul_add]; omega
  rw [e, Nat.add_mul_div_left _ _ (Mj_pos j)]
  generalize (a % M64 ^ j + b % M64 ^ j) / M64 ^ j = c
  generalize a / M64 ^ j = A
  generalize b / M64 ^ j = B
  unfold M64
  omega

theorem M64_four : M64 ^ 4 = Q256 := by decide +kernel

theorem par_four (a b : Nat) : par a b 4 = (a + b) % Q256 := by unfold par; rw [M64_four]
theorem cry_four {a b : Nat} (ha : a < Q256) (hb : b < Q256) : cry a b 4 = (a + b) / Q256 := by
  unfold cry
  rw [M64_four, Nat.mod_eq_of_lt ha, Nat.mod_eq_of_lt hb]

theorem lb_mod {n j i : Nat} : lb (n % M64 ^ j) i = if i < j then lb n i else 0 := by
  unfold lb
  split
  · rename_i h
    obtain ⟨k, rfl⟩ : ∃ k, j = i + (1 + k) := ⟨j - (i + 1), by omega⟩
    rw [Nat.pow_add, Nat.mod_mul_right_div_self, Nat.mod_mod_of_dvd _ ⟨M64 ^ k, by rw [Nat.pow_add, Nat.pow_one]⟩]
  · rename_i h
    rw [Nat.div_eq_of_lt (Nat.lt_of_lt_of_le (Nat.mod_lt _ (Mj_pos j)) (Nat.pow_le_pow_right M64_pos (by omega))), Nat.zero_mod]

theorem par_row {t : TypeId} {W : World} {k a b j : Nat} (hj : j < 4) (h : rowW t W k (par a b j)) : rowW t (W.setCell ⟨k, j, none⟩ (.int .u64 (((lb a j + lb b j + cry a b j) % M64 : Nat) : Int))) k (par a b (j + 1)) := by
  have e : (lb a j + lb b j + cry a b j) % M64 = lb (par a b (j + 1)) j := by
    rw [← lb_sum]
    unfold par
    rw [lb_mod, if_pos (by omega)]
  rw [e]
  refine store_row hj h fun i hi hij => ?_
  unfold par
  rw [lb_mod, lb_mod]
  by_cases h1 : i < j
  · rw [if_pos h1, if_pos (by omega)]
  · rw [if_neg h1, if_neg (by omega)]

theorem u64_wrap_add (x y : Nat) : IntKind.u64.wrap ((x : Int) + (y : Int)) = (((x + y) % 18446744073709551616 : Nat) : Int) := by
  have h : IntKind.u64.wrap ((x : Int) + (y : Int)) = ((x : Int) + (y : Int)) % 18446744073709551616 := rfl
  rw [h]
  omega

theorem u64_num {x : Int} {n : Nat} (h : x = (n : Int)) : Value.int .u64 x = .int .u64 (n : Nat) := by rw [h]

attribute [local irreducible] lb cry par

set_option maxRecDepth 100000 in
set_option maxHeartbeats 4000000 in
/-- carry. -/
theorem ref_carry (a b : Nat) (ha : a < Q256) (hb : b < Q256) (w : World) :
    Calls Tryd.prog 85 #[W4 a, W4 b] w fun e w' => e = .returned (.tuple #[W4 ((a + b) % Q256), .bool (decide (Q256 ≤ a + b))]) ∧ Below w.heap.size w w' := by
  obtain ⟨n, hn⟩ : ∃ n, n = (a + b) % Q256 := ⟨_, rfl⟩
  obtain ⟨ov, hov⟩ : ∃ ov, ov = decide (Q256 ≤ a + b) := ⟨_, rfl⟩
  rw [← hn, ← hov]
  have H0 := Lib.hid (And.intro hn hov)
  clear hn hov
  go_enter Tryd.func85, Tryd.ntmps85
  go_wp2
  go_loopw [7, 8] (fun c i wr => ∃ j : Nat, j ≤ 4 ∧ i = .int .i64 j ∧ c = .int .u64 (cry a b j : Nat) ∧ rowW 25 wr (w.heap.size + 1 + 1 + 1) (par a b j) ∧ rowW 25 wr w.heap.size a ∧ rowW 25 wr (w.heap.size + 1) b ∧ rowW 25 wr (w.heap.size + 1 + 1) 0 ∧ Below w.heap.size w wr)
    (fun _ i _ => 4 - (intOf i).toNat)
  case atStart => 
    refine ⟨0, by omega, rfl, by rw [cry_zero]; rfl, ?_, ?_, ?_, ?_, ?_⟩
    · have : par a b 0 = 0 := by unfold par; exact Nat.mod_one _
      rw [this]
      exact rowW.new0 (by simp)
    · exact (((rowW.new rfl).alloc _).alloc _).alloc _
    · exact ((rowW.new (by simp)).alloc _).alloc _
    · exact (rowW.new0 (by simp)).alloc _
    · skip
      repeat (first | exact Below.refl _ _ | refine below_drewN ?_ _ | refine Below.drew ?_ | refine Below.setCell ?_ (by first | omega | (simp; done) | (simp; omega)) _ | refine Below.alloc ?_ (by first | omega | (simp; done) | (simp; omega)) _ | refine Below.trans ?_ (Below.mono (by assumption) (by first | omega | (simp; done) | (simp; omega))))
  case round =>
    obtain ⟨j, hj, rfl, rfl, hrow, ra, rb, rz, hbel⟩ := hrel
    have rf := hrow.cells.2.2.2.2
    have hsz := hbel.size
    by_cases h4 : j < 4
    · have ca := ra.cellAt h4
      have cb := rb.cellAt h4
      have hx := lb_lt a j
      have hy := lb_lt b j
      have hc1 := cry_le a b j
      have co := hrow.cellAt h4
      obtain ⟨s, hs⟩ : ∃ s, s = (lb a j + lb b j) % M64 := ⟨_, rfl⟩
      obtain ⟨t, ht⟩ : ∃ t, t = (lb a j + lb b j + cry a b j) % M64 := ⟨_, rfl⟩
      have hcs := cry_succ a b j
      have ws : IntKind.u64.wrap (((lb a j : Nat) : Int) + ((lb b j : Nat) : Int)) = (s : Int) := by
        rw [u64_wrap_add, hs]; rfl
      have wt : IntKind.u64.wrap ((s : Int) + ((cry a b j : Nat) : Int)) = (t : Int) := by
        rw [u64_wrap_add, hs, ht]; unfold M64; omega
      have H := Lib.hid (And.intro hs (And.intro ht hcs))
      clear hs ht hcs
      go_wp2
      first | refine wp_flow (fun k => ([1, 1, 1, 1, 1, 1, 1, 1] : List Nat).getD k 1) Dr _ (Dr.next _ _) (by kernel_rfl) (by kernel_rfl) ?_ | refine wp_flow (fun k => ([1, 1, 1, 1, 1, 1, 1, 1] : List Nat).getD k 1) Dr _ (Dr.one _) (by kernel_rfl) (by kernel_rfl) ?_
      iterate 8 ((refine flow_quiet rfl rfl (fun K hK => ?_); apply Exists.intro; apply And.intro; (focus (rintro w' ⟨nn, rfl⟩; go_simp; (try go_bits); exact ⟨rfl, Dr.of _ _⟩)); go_simp; (try go_bits); refine hK _ ?_; clear hK K))
      refine flow_nil ?_
      rintro w' ⟨nq, rfl⟩
      go_wp2
      all_goals
        go_roundw
        case rel =>
          obtain ⟨hs, ht, hcs⟩ := H.out
          refine ⟨j + 1, by omega, by go_num, u64_num (by unfold M64 at *; omega), ?_, (ra.drewN _).set (by omega), (rb.drewN _).set (by omega), (rz.drewN _).set (by omega), ?_⟩
          · rw [ht]
            exact par_row h4 (hrow.drewN _)
          repeat (first | exact Below.refl _ _ | refine below_drewN ?_ _ | refine Below.drew ?_ | refine Below.setCell ?_ (by first | omega | (simp; done) | (simp; omega)) _ | refine Below.alloc ?_ (by first | omega | (simp; done) | (simp; omega)) _ | refine Below.trans ?_ (Below.mono (by assumption) (by first | omega | (simp; done) | (simp; omega))))
        case measure => simp [intOf]; omega
    · obtain rfl : j = 4 := by omega
      have hd : (((cry a b 4 : Nat) : Int) == 1) = ov := by
        rw [cry_four ha hb, H0.out.2]
        refine Bool.eq_iff_iff.2 ?_
        simp only [beq_iff_eq, decide_eq_true_iff]
        unfold Q256 at *
        omega
      rw [par_four a b, ← H0.out.1] at hrow
      obtain ⟨c0, c1, c2, c3, cf⟩ := hrow.cells
      obtain ⟨z0, z1, z2, z3, zf⟩ := rz.cells
      clear rf ra rb rz hrow H0
      go_wp2
      refine bodyPost_ret (by simp only [results, Tryd.results85]; go_simp) rfl ⟨rfl, ?_⟩
      repeat (first | exact Below.refl _ _ | refine below_drewN ?_ _ | refine Below.drew ?_ | refine Below.setCell ?_ (by first | omega | (simp; done) | (simp; omega)) _ | refine Below.alloc ?_ (by first | omega | (simp; done) | (simp; omega)) _ | refine Below.trans ?_ (Below.mono (by assumption) (by first | omega | (simp; done) | (simp; omega))))

set_option maxRecDepth 100000 in
set_option maxHeartbeats 400000 in
/-- The document's Of. -/
theorem ref_Of (n : Nat) (hn : n < M64) (w : World) :
    Calls Tryd.prog 84 #[.int .u64 n] w fun e w' => e = .returned (W4 n) ∧ Below w.heap.size w w' := by
  have hw : W4 n = .agg #[.int .u64 n, .int .u64 0, .int .u64 0, .int .u64 0] := by
    obtain ⟨h0, h1, h2, h3⟩ := lb_small hn
    rw [W4, h0, h1, h2, h3]
    rfl
  rw [hw]
  clear hw
  go_enter Tryd.func84, Tryd.ntmps84
  go_wp2
  exact bodyPost_ret (v := .agg #[.int .u64 n, .int .u64 0, .int .u64 0, .int .u64 0]) (by simp [results, Tryd.results84, go_sem]) rfl ⟨rfl, (Below.refl _ _).alloc (Nat.le_refl _) _⟩

set_option maxRecDepth 100000 in
set_option maxHeartbeats 400000 in
/-- The document's Add. -/
theorem ref_Add (a b : Nat) (ha : a < Q256) (hb : b < Q256) (w : World) :
    Calls Tryd.prog 76 #[W4 a, W4 b] w fun e w' => e = .returned (W4 ((a + b) % Q256)) ∧ Below w.heap.size w w' := by
  have c1 := fun W => ref_carry a b ha hb W
  generalize decide (Q256 ≤ a + b) = ov at c1
  generalize (a + b) % Q256 = n at c1 ⊢
  go_enter Tryd.func76, Tryd.ntmps76
  go_wp2_with (go_at_call 85; refine (c1 _).mono ?_; rintro e w1 ⟨rfl, hb_w1⟩; have hc_w1 := (bcell hb_w1).1; have hf_w1 := (bcell hb_w1).2; have hz_w1 : _ ≤ w1.heap.size := hb_w1.size; (try simp only [World.size_alloc, World.heap_drewN, World.size_setCell, heap_drew] at hc_w1 hf_w1 hz_w1); have hz_w1_w_0 : w.heap.size < w1.heap.size := (by omega); have hz_w1_w_1 : w.heap.size + 1 < w1.heap.size := (by omega); have hz_w1_w_2 : w.heap.size + 1 + 1 < w1.heap.size := (by omega))
  refine bodyPost_ret (v := W4 n) (by simp only [results, Tryd.results76]; go_simp) rfl ⟨rfl, ?_⟩
  repeat (first | exact Below.refl _ _ | refine below_drewN ?_ _ | refine Below.drew ?_ | refine Below.setCell ?_ (by first | omega | (simp; done) | (simp; omega)) _ | refine Below.alloc ?_ (by first | omega | (simp; done) | (simp; omega)) _ | refine Below.trans ?_ (Below.mono (by assumption) (by first | omega | (simp; done) | (simp; omega))))

theorem not_lt (b : Nat) : Q256 - 1 - b < Q256 := by unfold Q256; omega

theorem W4_not {a : Nat} (ha : a < Q256) : W4 (Q256 - 1 - a) = .agg #[.int .u64 (M64 - 1 - lb a 0 : Nat), .int .u64 (M64 - 1 - lb a 1 : Nat), .int .u64 (M64 - 1 - lb a 2 : Nat), .int .u64 (M64 - 1 - lb a 3 : Nat)] := by
  have h0 := lb_lt a 0
  have h1 := lb_lt a 1
  have h2 := lb_lt a 2
  have h3 := lb_lt a 3
  have e := lb_eq ha
  refine (W4_eq ?_ ?_ ?_ ?_ ?_).symm
  · unfold M64 at *; omega
  · unfold M64 at *; omega
  · unfold M64 at *; omega
  · unfold M64 at *; omega
  · generalize lb a 0 = x0 at *
    generalize lb a 1 = x1 at *
    generalize lb a 2 = x2 at *
    generalize lb a 3 = x3 at *
    unfold val4 Q256 M64 at *
    omega

theorem xor_ones {x : Nat} (h : x < M64) : bits .xor .u64 IntKind.u64.max ((x : Nat) : Int) = ((M64 - 1 - x : Nat) : Int) := by
  have e : (18446744073709551615 : Nat) ^^^ x = 2 ^ 64 - (x + 1) := by
    refine Nat.eq_of_testBit_eq fun i => ?_
    have e1 : (18446744073709551615 : Nat) = 2 ^ 64 - 1 := by decide
    rw [e1, Nat.testBit_xor, Nat.testBit_two_pow_sub_one, Nat.testBit_two_pow_sub_succ (by rw [← M64_pow]; exact h)]
    by_cases hi : i < 64
    · simp [hi]
    · have : x.testBit i = false := Nat.testBit_lt_two_pow (Nat.lt_of_lt_of_le (by rw [← M64_pow]; exact h) (Nat.pow_le_pow_right (by decide) (Nat.le_of_not_lt hi)))
      simp [hi, this]
  have hm : IntKind.u64.max = ((18446744073709551615 : Nat) : Int) := by decide
  rw [hm, u64_xor_nat _ _ (by decide) h, e]
  unfold M64 at *
  omega

set_option maxRecDepth 100000 in
set_option maxHeartbeats 400000 in
/-- not. -/
theorem ref_not (a : Nat) (ha : a < Q256) (w : World) :
    Calls Tryd.prog 83 #[W4 a] w fun e w' => e = .returned (W4 (Q256 - 1 - a)) ∧ Below w.heap.size w w' := by
  rw [W4_not ha]
  have n0 := xor_ones (lb_lt a 0)
  have n1 := xor_ones (lb_lt a 1)
  have n2 := xor_ones (lb_lt a 2)
  have n3 := xor_ones (lb_lt a 3)
  generalize M64 - 1 - lb a 0 = x0 at *
  generalize M64 - 1 - lb a 1 = x1 at *
  generalize M64 - 1 - lb a 2 = x2 at *
  generalize M64 - 1 - lb a 3 = x3 at *
  have hsg : ¬ IntKind.u64.signed = true := by decide
  go_enter Tryd.func83, Tryd.ntmps83
  go_wp2
  refine bodyPost_ret (by simp only [results, Tryd.results83]; go_simp) rfl ⟨rfl, ?_⟩
  repeat (first | exact Below.refl _ _ | refine below_drewN ?_ _ | refine Below.drew ?_ | refine Below.setCell ?_ (by first | omega | (simp; done) | (simp; omega)) _ | refine Below.alloc ?_ (by first | omega | (simp; done) | (simp; omega)) _ | refine Below.trans ?_ (Below.mono (by assumption) (by first | omega | (simp; done) | (simp; omega))))

set_option maxRecDepth 100000 in
set_option maxHeartbeats 400000 in
/-- The document's Sub. -/
theorem ref_Sub (a b : Nat) (ha : a < Q256) (hb : b < Q256) (w : World) :
    Calls Tryd.prog 75 #[W4 a, W4 b] w fun e w' => e = .returned (W4 ((a + Q256 - b) % Q256)) ∧ Below w.heap.size w w' := by
  have c1 := fun W => ref_not b hb W
  have c2 : ∀ W, Calls Tryd.prog 84 #[.int .u64 1] W fun e w' => e = .returned (W4 1) ∧ Below W.heap.size W w' := fun W => ref_Of 1 (by decide) W
  have c3 := fun W => ref_Add (Q256 - 1 - b) 1 (not_lt b) (by decide) W
  have c4 := fun W => ref_Add a ((Q256 - 1 - b + 1) % Q256) ha (Nat.mod_lt _ Q256_pos) W
  have e : (a + (Q256 - 1 - b + 1) % Q256) % Q256 = (a + Q256 - b) % Q256 := by unfold Q256 at *; omega
  rw [e] at c4
  clear e
  generalize (a + Q256 - b) % Q256 = r at *
  generalize (Q256 - 1 - b + 1) % Q256 = s at *
  generalize Q256 - 1 - b = n at *
  go_enter Tryd.func75, Tryd.ntmps75
  go_wp2
  refine wp_flow (fun k => ([1, 1, 1, 1, 1, 1, 2] : List Nat).getD k 1) (Below (w.heap.size + 3)) _ (Below.drew (Below.refl _ _)) (by kernel_rfl) (by kernel_rfl) ?_
  iterate 2 ((refine flow_quiet rfl rfl (fun K hK => ?_); apply Exists.intro; apply And.intro; (focus (intro w' hw'; have hc := (bcell hw').1; go_simp; (try go_bits); all_goals (first | exact rfl | exact ⟨rfl, hw'⟩))); go_simp; (try go_bits); refine hK _ ?_; clear hK K))
  first | (refine flow_quiet rfl rfl (fun K hK => ?_); apply Exists.intro; apply And.intro; (focus (intro w' hw'; have hc := (bcell hw').1; go_simp; (try go_bits); all_goals (go_at_call 83; with_reducible refine (c1 _).mono ?_; rintro e w2 ⟨rfl, hb⟩; exact ⟨rfl, hw'.trans (hb.mono (below_le hw' (by simp)))⟩))); go_simp; (try go_bits); refine hK _ ?_; clear hK K) | (refine flow_quiet rfl rfl (fun K hK => ?_); apply Exists.intro; apply And.intro; (focus (intro w' hw'; have hc := (bcell hw').1; go_simp; (try go_bits); all_goals (go_at_call 83; refine (c1 _).mono ?_; rintro e w2 ⟨rfl, hb⟩; exact ⟨rfl, hw'.trans (hb.mono (below_le hw' (by simp)))⟩))); go_simp; (try go_bits); refine hK _ ?_; clear hK K)
  first | (refine flow_quiet rfl rfl (fun K hK => ?_); apply Exists.intro; apply And.intro; (focus (intro w' hw'; have hc := (bcell hw').1; go_simp; (try go_bits); all_goals (go_at_call 84; with_reducible refine (c2 _).mono ?_; rintro e w2 ⟨rfl, hb⟩; exact ⟨rfl, hw'.trans (hb.mono (below_le hw' (by simp)))⟩))); go_simp; (try go_bits); refine hK _ ?_; clear hK K) | (refine flow_quiet rfl rfl (fun K hK => ?_); apply Exists.intro; apply And.intro; (focus (intro w' hw'; have hc := (bcell hw').1; go_simp; (try go_bits); all_goals (go_at_call 84; refine (c2 _).mono ?_; rintro e w2 ⟨rfl, hb⟩; exact ⟨rfl, hw'.trans (hb.mono (below_le hw' (by simp)))⟩))); go_simp; (try go_bits); refine hK _ ?_; clear hK K)
  iterate 2 (first | (refine flow_quiet rfl rfl (fun K hK => ?_); apply Exists.intro; apply And.intro; (focus (intro w' hw'; have hc := (bcell hw').1; go_simp; (try go_bits); all_goals (go_at_call 76; with_reducible refine (c3 _).mono ?_; rintro e w2 ⟨rfl, hb⟩; exact ⟨rfl, hw'.trans (hb.mono (below_le hw' (by simp)))⟩))); go_simp; (try go_bits); refine hK _ ?_; clear hK K) | (refine flow_quiet rfl rfl (fun K hK => ?_); apply Exists.intro; apply And.intro; (focus (intro w' hw'; have hc := (bcell hw').1; go_simp; (try go_bits); all_goals (go_at_call 76; with_reducible refine (c4 _).mono ?_; rintro e w2 ⟨rfl, hb⟩; exact ⟨rfl, hw'.trans (hb.mono (below_le hw' (by simp)))⟩))); go_simp; (try go_bits); refine hK _ ?_; clear hK K) | (refine flow_quiet rfl rfl (fun K hK => ?_); apply Exists.intro; apply And.intro; (focus (intro w' hw'; have hc := (bcell hw').1; go_simp; (try go_bits); all_goals (go_at_call 76; refine (c3 _).mono ?_; rintro e w2 ⟨rfl, hb⟩; exact ⟨rfl, hw'.trans (hb.mono (below_le hw' (by simp)))⟩))); go_simp; (try go_bits); refine hK _ ?_; clear hK K) | (refine flow_quiet rfl rfl (fun K hK => ?_); apply Exists.intro; apply And.intro; (focus (intro w' hw'; have hc := (bcell hw').1; go_simp; (try go_bits); all_goals (go_at_call 76; refine (c4 _).mono ?_; rintro e w2 ⟨rfl, hb⟩; exact ⟨rfl, hw'.trans (hb.mono (below_le hw' (by simp)))⟩))); go_simp; (try go_bits); refine hK _ ?_; clear hK K))
  (refine flow_eff rfl rfl (fun K hK => ?_); apply Exists.intro; apply Exists.intro; apply And.intro; (focus (intro w' hw'; have hc := (bcell hw').1; have hf := (bcell hw').2; go_simp; (try go_bits); refine ⟨rfl, ?_⟩; (repeat apply below_store); exact hw')); go_simp; (try go_bits); refine hK _ _ ?_; clear hK K)
  refine flow_nil ?_
  intro w' hw'
  have hc_w' := (bcell hw').1; have hf_w' := (bcell hw').2; have hz_w' : _ ≤ w'.heap.size := hw'.size; (try simp only [World.size_alloc, World.heap_drewN, World.size_setCell, heap_drew] at hc_w' hf_w' hz_w'); have hz_w'_w_0 : w.heap.size < w'.heap.size := (by omega); have hz_w'_w_1 : w.heap.size + 1 < w'.heap.size := (by omega); have hz_w'_w_2 : w.heap.size + 1 + 1 < w'.heap.size := (by omega)
  go_wp2
  refine bodyPost_ret (v := W4 r) (by simp only [results, Tryd.results75]; go_simp) rfl ⟨rfl, ?_⟩
  repeat (first | exact Below.refl _ _ | refine below_drewN ?_ _ | refine Below.drew ?_ | refine Below.setCell ?_ (by first | omega | (simp; done) | (simp; omega)) _ | refine Below.alloc ?_ (by first | omega | (simp; done) | (simp; omega)) _ | refine Below.trans ?_ (Below.mono (by assumption) (by first | omega | (simp; done) | (simp; omega))))

set_option maxRecDepth 100000 in
set_option maxHeartbeats 4000000 in
/-- The document's Less. -/
theorem ref_Less (a b : Nat) (ha : a < Q256) (hb : b < Q256) (w : World) :
    Calls Tryd.prog 63 #[W4 a, W4 b] w fun e w' => e = .returned (.bool (ltB a b)) ∧ Below w.heap.size w w' := by
  have n3 : lb a 3 ≠ lb b 3 → (((lb a 3 : Nat) : Int) != ((lb b 3 : Nat) : Int)) = true := fun h => by simp only [bne_iff_ne, ne_eq, Int.natCast_inj]; exact h
  have n2 : lb a 2 ≠ lb b 2 → (((lb a 2 : Nat) : Int) != ((lb b 2 : Nat) : Int)) = true := fun h => by simp only [bne_iff_ne, ne_eq, Int.natCast_inj]; exact h
  have n1 : lb a 1 ≠ lb b 1 → (((lb a 1 : Nat) : Int) != ((lb b 1 : Nat) : Int)) = true := fun h => by simp only [bne_iff_ne, ne_eq, Int.natCast_inj]; exact h
  have n0 : lb a 0 ≠ lb b 0 → (((lb a 0 : Nat) : Int) != ((lb b 0 : Nat) : Int)) = true := fun h => by simp only [bne_iff_ne, ne_eq, Int.natCast_inj]; exact h
  have e3 : lb a 3 = lb b 3 → (((lb a 3 : Nat) : Int) != ((lb b 3 : Nat) : Int)) = false := fun h => by rw [h]; simp
  have e2 : lb a 2 = lb b 2 → (((lb a 2 : Nat) : Int) != ((lb b 2 : Nat) : Int)) = false := fun h => by rw [h]; simp
  have e1 : lb a 1 = lb b 1 → (((lb a 1 : Nat) : Int) != ((lb b 1 : Nat) : Int)) = false := fun h => by rw [h]; simp
  have e0 : lb a 0 = lb b 0 → (((lb a 0 : Nat) : Int) != ((lb b 0 : Nat) : Int)) = false := fun h => by rw [h]; simp
  by_cases h3 : lb a 3 = lb b 3
  · have t3 := e3 h3
    by_cases h2 : lb a 2 = lb b 2
    · have t2 := e2 h2
      by_cases h1 : lb a 1 = lb b 1
      · have t1 := e1 h1
        have H := Lib.hid (ltB_0 ha hb h3 h2 h1)
        by_cases h0 : lb a 0 = lb b 0
        · have t0 := e0 h0
          have H0 := Lib.hid h0
          clear h3 h2 h1 h0 n3 n2 n1 n0 e3 e2 e1 e0
          go_enter Tryd.func63, Tryd.ntmps63
          go_wp2
          refine wp_loop_rounds 5 ?_
          rw [rounds_succ]
          go_wp2
          first | refine wp_flow (fun k => ([1, 1, 1, 1, 1, 1, 1] : List Nat).getD k 1) Dr _ (Dr.next _ _) (by kernel_rfl) (by kernel_rfl) ?_ | refine wp_flow (fun k => ([1, 1, 1, 1, 1, 1, 1] : List Nat).getD k 1) Dr _ (Dr.one _) (by kernel_rfl) (by kernel_rfl) ?_
          iterate 7 ((refine flow_quiet rfl rfl (fun K hK => ?_); apply Exists.intro; apply And.intro; (focus (rintro w' ⟨nn, rfl⟩; go_simp; (try go_bits); exact ⟨rfl, Dr.of _ _⟩)); go_simp; (try go_bits); refine hK _ ?_; clear hK K))
          refine flow_nil ?_
          rintro w' ⟨nq, rfl⟩
          go_wp2
          rw [rounds_succ]
          go_wp2
          first | refine wp_flow (fun k => ([1, 1, 1, 1, 1, 1, 1] : List Nat).getD k 1) Dr _ (Dr.next _ _) (by kernel_rfl) (by kernel_rfl) ?_ | refine wp_flow (fun k => ([1, 1, 1, 1, 1, 1, 1] : List Nat).getD k 1) Dr _ (Dr.one _) (by kernel_rfl) (by kernel_rfl) ?_
          iterate 7 ((refine flow_quiet rfl rfl (fun K hK => ?_); apply Exists.intro; apply And.intro; (focus (rintro w' ⟨nn, rfl⟩; go_simp; (try go_bits); exact ⟨rfl, Dr.of _ _⟩)); go_simp; (try go_bits); refine hK _ ?_; clear hK K))
          refine flow_nil ?_
          rintro w' ⟨nq, rfl⟩
          go_wp2
          rw [rounds_succ]
          go_wp2
          first | refine wp_flow (fun k => ([1, 1, 1, 1, 1, 1, 1] : List Nat).getD k 1) Dr _ (Dr.next _ _) (by kernel_rfl) (by kernel_rfl) ?_ | refine wp_flow (fun k => ([1, 1, 1, 1, 1, 1, 1] : List Nat).getD k 1) Dr _ (Dr.one _) (by kernel_rfl) (by kernel_rfl) ?_
          iterate 7 ((refine flow_quiet rfl rfl (fun K hK => ?_); apply Exists.intro; apply And.intro; (focus (rintro w' ⟨nn, rfl⟩; go_simp; (try go_bits); exact ⟨rfl, Dr.of _ _⟩)); go_simp; (try go_bits); refine hK _ ?_; clear hK K))
          refine flow_nil ?_
          rintro w' ⟨nq, rfl⟩
          go_wp2
          rw [rounds_succ]
          go_wp2
          first | refine wp_flow (fun k => ([1, 1, 1, 1, 1, 1, 1] : List Nat).getD k 1) Dr _ (Dr.next _ _) (by kernel_rfl) (by kernel_rfl) ?_ | refine wp_flow (fun k => ([1, 1, 1, 1, 1, 1, 1] : List Nat).getD k 1) Dr _ (Dr.one _) (by kernel_rfl) (by kernel_rfl) ?_
          iterate 7 ((refine flow_quiet rfl rfl (fun K hK => ?_); apply Exists.intro; apply And.intro; (focus (rintro w' ⟨nn, rfl⟩; go_simp; (try go_bits); exact ⟨rfl, Dr.of _ _⟩)); go_simp; (try go_bits); refine hK _ ?_; clear hK K))
          refine flow_nil ?_
          rintro w' ⟨nq, rfl⟩
          go_wp2
          rw [rounds_succ]
          go_wp2
          go_ret
          refine ⟨ret_bool ?_, ?_⟩
          · rw [← H.out, H0.out]; simp
          repeat (first | exact Below.refl _ _ | refine below_drewN ?_ _ | refine Below.drew ?_ | refine Below.setCell ?_ (by first | omega | (simp; done) | (simp; omega)) _ | refine Below.alloc ?_ (by first | omega | (simp; done) | (simp; omega)) _ | refine Below.trans ?_ (Below.mono (by assumption) (by first | omega | (simp; done) | (simp; omega))))
        · have t0 := n0 h0
          clear h3 h2 h1 h0 n3 n2 n1 n0 e3 e2 e1 e0
          go_enter Tryd.func63, Tryd.ntmps63
          go_wp2
          refine wp_loop_rounds 5 ?_
          rw [rounds_succ]
          go_wp2
          first | refine wp_flow (fun k => ([1, 1, 1, 1, 1, 1, 1] : List Nat).getD k 1) Dr _ (Dr.next _ _) (by kernel_rfl) (by kernel_rfl) ?_ | refine wp_flow (fun k => ([1, 1, 1, 1, 1, 1, 1] : List Nat).getD k 1) Dr _ (Dr.one _) (by kernel_rfl) (by kernel_rfl) ?_
          iterate 7 ((refine flow_quiet rfl rfl (fun K hK => ?_); apply Exists.intro; apply And.intro; (focus (rintro w' ⟨nn, rfl⟩; go_simp; (try go_bits); exact ⟨rfl, Dr.of _ _⟩)); go_simp; (try go_bits); refine hK _ ?_; clear hK K))
          refine flow_nil ?_
          rintro w' ⟨nq, rfl⟩
          go_wp2
          rw [rounds_succ]
          go_wp2
          first | refine wp_flow (fun k => ([1, 1, 1, 1, 1, 1, 1] : List Nat).getD k 1) Dr _ (Dr.next _ _) (by kernel_rfl) (by kernel_rfl) ?_ | refine wp_flow (fun k => ([1, 1, 1, 1, 1, 1, 1] : List Nat).getD k 1) Dr _ (Dr.one _) (by kernel_rfl) (by kernel_rfl) ?_
          iterate 7 ((refine flow_quiet rfl rfl (fun K hK => ?_); apply Exists.intro; apply And.intro; (focus (rintro w' ⟨nn, rfl⟩; go_simp; (try go_bits); exact ⟨rfl, Dr.of _ _⟩)); go_simp; (try go_bits); refine hK _ ?_; clear hK K))
          refine flow_nil ?_
          rintro w' ⟨nq, rfl⟩
          go_wp2
          rw [rounds_succ]
          go_wp2
          first | refine wp_flow (fun k => ([1, 1, 1, 1, 1, 1, 1] : List Nat).getD k 1) Dr _ (Dr.next _ _) (by kernel_rfl) (by kernel_rfl) ?_ | refine wp_flow (fun k => ([1, 1, 1, 1, 1, 1, 1] : List Nat).getD k 1) Dr _ (Dr.one _) (by kernel_rfl) (by kernel_rfl) ?_
          iterate 7 ((refine flow_quiet rfl rfl (fun K hK => ?_); apply Exists.intro; apply And.intro; (focus (rintro w' ⟨nn, rfl⟩; go_simp; (try go_bits); exact ⟨rfl, Dr.of _ _⟩)); go_simp; (try go_bits); refine hK _ ?_; clear hK K))
          refine flow_nil ?_
          rintro w' ⟨nq, rfl⟩
          go_wp2
          rw [rounds_succ]
          go_wp2
          first | refine wp_flow (fun k => ([1, 1, 1, 1, 1, 1, 1] : List Nat).getD k 1) Dr _ (Dr.next _ _) (by kernel_rfl) (by kernel_rfl) ?_ | refine wp_flow (fun k => ([1, 1, 1, 1, 1, 1, 1] : List Nat).getD k 1) Dr _ (Dr.one _) (by kernel_rfl) (by kernel_rfl) ?_
          iterate 7 ((refine flow_quiet rfl rfl (fun K hK => ?_); apply Exists.intro; apply And.intro; (focus (rintro w' ⟨nn, rfl⟩; go_simp; (try go_bits); exact ⟨rfl, Dr.of _ _⟩)); go_simp; (try go_bits); refine hK _ ?_; clear hK K))
          refine flow_nil ?_
          rintro w' ⟨nq, rfl⟩
          go_wp2
          first | refine wp_flow (fun k => ([1, 1, 1, 1, 1, 1, 1, 1] : List Nat).getD k 1) Dr _ (Dr.next _ _) (by kernel_rfl) (by kernel_rfl) ?_ | refine wp_flow (fun k => ([1, 1, 1, 1, 1, 1, 1, 1] : List Nat).getD k 1) Dr _ (Dr.one _) (by kernel_rfl) (by kernel_rfl) ?_
          iterate 8 ((refine flow_quiet rfl rfl (fun K hK => ?_); apply Exists.intro; apply And.intro; (focus (rintro w' ⟨nn, rfl⟩; go_simp; (try go_bits); exact ⟨rfl, Dr.of _ _⟩)); go_simp; (try go_bits); refine hK _ ?_; clear hK K))
          refine flow_nil ?_
          rintro w' ⟨nq, rfl⟩
          go_wp2
          go_ret
          refine ⟨ret_bool H.out, ?_⟩
          repeat (first | exact Below.refl _ _ | refine below_drewN ?_ _ | refine Below.drew ?_ | refine Below.setCell ?_ (by first | omega | (simp; done) | (simp; omega)) _ | refine Below.alloc ?_ (by first | omega | (simp; done) | (simp; omega)) _ | refine Below.trans ?_ (Below.mono (by assumption) (by first | omega | (simp; done) | (simp; omega))))
      · have t1 := n1 h1
        have H := Lib.hid (ltB_1 ha hb h3 h2 h1)
        clear h3 h2 h1 n3 n2 n1 n0 e3 e2 e1 e0
        go_enter Tryd.func63, Tryd.ntmps63
        go_wp2
        refine wp_loop_rounds 5 ?_
        rw [rounds_succ]
        go_wp2
        first | refine wp_flow (fun k => ([1, 1, 1, 1, 1, 1, 1] : List Nat).getD k 1) Dr _ (Dr.next _ _) (by kernel_rfl) (by kernel_rfl) ?_ | refine wp_flow (fun k => ([1, 1, 1, 1, 1, 1, 1] : List Nat).getD k 1) Dr _ (Dr.one _) (by kernel_rfl) (by kernel_rfl) ?_
        iterate 7 ((refine flow_quiet rfl rfl (fun K hK => ?_); apply Exists.intro; apply And.intro; (focus (rintro w' ⟨nn, rfl⟩; go_simp; (try go_bits); exact ⟨rfl, Dr.of _ _⟩)); go_simp; (try go_bits); refine hK _ ?_; clear hK K))
        refine flow_nil ?_
        rintro w' ⟨nq, rfl⟩
        go_wp2
        rw [rounds_succ]
        go_wp2
        first | refine wp_flow (fun k => ([1, 1, 1, 1, 1, 1, 1] : List Nat).getD k 1) Dr _ (Dr.next _ _) (by kernel_rfl) (by kernel_rfl) ?_ | refine wp_flow (fun k => ([1, 1, 1, 1, 1, 1, 1] : List Nat).getD k 1) Dr _ (Dr.one _) (by kernel_rfl) (by kernel_rfl) ?_
        iterate 7 ((refine flow_quiet rfl rfl (fun K hK => ?_); apply Exists.intro; apply And.intro; (focus (rintro w' ⟨nn, rfl⟩; go_simp; (try go_bits); exact ⟨rfl, Dr.of _ _⟩)); go_simp; (try go_bits); refine hK _ ?_; clear hK K))
        refine flow_nil ?_
        rintro w' ⟨nq, rfl⟩
        go_wp2
        rw [rounds_succ]
        go_wp2
        first | refine wp_flow (fun k => ([1, 1, 1, 1, 1, 1, 1] : List Nat).getD k 1) Dr _ (Dr.next _ _) (by kernel_rfl) (by kernel_rfl) ?_ | refine wp_flow (fun k => ([1, 1, 1, 1, 1, 1, 1] : List Nat).getD k 1) Dr _ (Dr.one _) (by kernel_rfl) (by kernel_rfl) ?_
        iterate 7 ((refine flow_quiet rfl rfl (fun K hK => ?_); apply Exists.intro; apply And.intro; (focus (rintro w' ⟨nn, rfl⟩; go_simp; (try go_bits); exact ⟨rfl, Dr.of _ _⟩)); go_simp; (try go_bits); refine hK _ ?_; clear hK K))
        refine flow_nil ?_
        rintro w' ⟨nq, rfl⟩
        go_wp2
        first | refine wp_flow (fun k => ([1, 1, 1, 1, 1, 1, 1, 1] : List Nat).getD k 1) Dr _ (Dr.next _ _) (by kernel_rfl) (by kernel_rfl) ?_ | refine wp_flow (fun k => ([1, 1, 1, 1, 1, 1, 1, 1] : List Nat).getD k 1) Dr _ (Dr.one _) (by kernel_rfl) (by kernel_rfl) ?_
        iterate 8 ((refine flow_quiet rfl rfl (fun K hK => ?_); apply Exists.intro; apply And.intro; (focus (rintro w' ⟨nn, rfl⟩; go_simp; (try go_bits); exact ⟨rfl, Dr.of _ _⟩)); go_simp; (try go_bits); refine hK _ ?_; clear hK K))
        refine flow_nil ?_
        rintro w' ⟨nq, rfl⟩
        go_wp2
        go_ret
        refine ⟨ret_bool H.out, ?_⟩
        repeat (first | exact Below.refl _ _ | refine below_drewN ?_ _ | refine Below.drew ?_ | refine Below.setCell ?_ (by first | omega | (simp; done) | (simp; omega)) _ | refine Below.alloc ?_ (by first | omega | (simp; done) | (simp; omega)) _ | refine Below.trans ?_ (Below.mono (by assumption) (by first | omega | (simp; done) | (simp; omega))))
    · have t2 := n2 h2
      have H := Lib.hid (ltB_2 ha hb h3 h2)
      clear h3 h2 n3 n2 n1 n0 e3 e2 e1 e0
      go_enter Tryd.func63, Tryd.ntmps63
      go_wp2
      refine wp_loop_rounds 5 ?_
      rw [rounds_succ]
      go_wp2
      first | refine wp_flow (fun k => ([1, 1, 1, 1, 1, 1, 1] : List Nat).getD k 1) Dr _ (Dr.next _ _) (by kernel_rfl) (by kernel_rfl) ?_ | refine wp_flow (fun k => ([1, 1, 1, 1, 1, 1, 1] : List Nat).getD k 1) Dr _ (Dr.one _) (by kernel_rfl) (by kernel_rfl) ?_
      iterate 7 ((refine flow_quiet rfl rfl (fun K hK => ?_); apply Exists.intro; apply And.intro; (focus (rintro w' ⟨nn, rfl⟩; go_simp; (try go_bits); exact ⟨rfl, Dr.of _ _⟩)); go_simp; (try go_bits); refine hK _ ?_; clear hK K))
      refine flow_nil ?_
      rintro w' ⟨nq, rfl⟩
      go_wp2
      rw [rounds_succ]
      go_wp2
      first | refine wp_flow (fun k => ([1, 1, 1, 1, 1, 1, 1] : List Nat).getD k 1) Dr _ (Dr.next _ _) (by kernel_rfl) (by kernel_rfl) ?_ | refine wp_flow (fun k => ([1, 1, 1, 1, 1, 1, 1] : List Nat).getD k 1) Dr _ (Dr.one _) (by kernel_rfl) (by kernel_rfl) ?_
      iterate 7 ((refine flow_quiet rfl rfl (fun K hK => ?_); apply Exists.intro; apply And.intro; (focus (rintro w' ⟨nn, rfl⟩; go_simp; (try go_bits); exact ⟨rfl, Dr.of _ _⟩)); go_simp; (try go_bits); refine hK _ ?_; clear hK K))
      refine flow_nil ?_
      rintro w' ⟨nq, rfl⟩
      go_wp2
      first | refine wp_flow (fun k => ([1, 1, 1, 1, 1, 1, 1, 1] : List Nat).getD k 1) Dr _ (Dr.next _ _) (by kernel_rfl) (by kernel_rfl) ?_ | refine wp_flow (fun k => ([1, 1, 1, 1, 1, 1, 1, 1] : List Nat).getD k 1) Dr _ (Dr.one _) (by kernel_rfl) (by kernel_rfl) ?_
      iterate 8 ((refine flow_quiet rfl rfl (fun K hK => ?_); apply Exists.intro; apply And.intro; (focus (rintro w' ⟨nn, rfl⟩; go_simp; (try go_bits); exact ⟨rfl, Dr.of _ _⟩)); go_simp; (try go_bits); refine hK _ ?_; clear hK K))
      refine flow_nil ?_
      rintro w' ⟨nq, rfl⟩
      go_wp2
      go_ret
      refine ⟨ret_bool H.out, ?_⟩
      repeat (first | exact Below.refl _ _ | refine below_drewN ?_ _ | refine Below.drew ?_ | refine Below.setCell ?_ (by first | omega | (simp; done) | (simp; omega)) _ | refine Below.alloc ?_ (by first | omega | (simp; done) | (simp; omega)) _ | refine Below.trans ?_ (Below.mono (by assumption) (by first | omega | (simp; done) | (simp; omega))))
  · have t3 := n3 h3
    have H := Lib.hid (ltB_3 ha hb h3)
    clear h3 n3 n2 n1 n0 e3 e2 e1 e0
    go_enter Tryd.func63, Tryd.ntmps63
    go_wp2
    refine wp_loop_rounds 5 ?_
    rw [rounds_succ]
    go_wp2
    first | refine wp_flow (fun k => ([1, 1, 1, 1, 1, 1, 1] : List Nat).getD k 1) Dr _ (Dr.next _ _) (by kernel_rfl) (by kernel_rfl) ?_ | refine wp_flow (fun k => ([1, 1, 1, 1, 1, 1, 1] : List Nat).getD k 1) Dr _ (Dr.one _) (by kernel_rfl) (by kernel_rfl) ?_
    iterate 7 ((refine flow_quiet rfl rfl (fun K hK => ?_); apply Exists.intro; apply And.intro; (focus (rintro w' ⟨nn, rfl⟩; go_simp; (try go_bits); exact ⟨rfl, Dr.of _ _⟩)); go_simp; (try go_bits); refine hK _ ?_; clear hK K))
    refine flow_nil ?_
    rintro w' ⟨nq, rfl⟩
    go_wp2
    first | refine wp_flow (fun k => ([1, 1, 1, 1, 1, 1, 1, 1] : List Nat).getD k 1) Dr _ (Dr.next _ _) (by kernel_rfl) (by kernel_rfl) ?_ | refine wp_flow (fun k => ([1, 1, 1, 1, 1, 1, 1, 1] : List Nat).getD k 1) Dr _ (Dr.one _) (by kernel_rfl) (by kernel_rfl) ?_
    iterate 8 ((refine flow_quiet rfl rfl (fun K hK => ?_); apply Exists.intro; apply And.intro; (focus (rintro w' ⟨nn, rfl⟩; go_simp; (try go_bits); exact ⟨rfl, Dr.of _ _⟩)); go_simp; (try go_bits); refine hK _ ?_; clear hK K))
    refine flow_nil ?_
    rintro w' ⟨nq, rfl⟩
    go_wp2
    go_ret
    refine ⟨ret_bool H.out, ?_⟩
    repeat (first | exact Below.refl _ _ | refine below_drewN ?_ _ | refine Below.drew ?_ | refine Below.setCell ?_ (by first | omega | (simp; done) | (simp; omega)) _ | refine Below.alloc ?_ (by first | omega | (simp; done) | (simp; omega)) _ | refine Below.trans ?_ (Below.mono (by assumption) (by first | omega | (simp; done) | (simp; omega))))

end Go.Proofs.YtcdjdnbdblpofaaDoor
