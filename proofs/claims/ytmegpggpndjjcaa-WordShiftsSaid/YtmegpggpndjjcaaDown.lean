/-
  Contracts of word.down, Shr and Sar. Conditions: none.
-/
import Derived.Test.YtmegpggpndjjcaaShift
namespace Go.Proofs.Ytmegpggpndjjcaa
open Go.RowKit
attribute [local go_sem] leftBy
set_option linter.unusedSimpArgs false
set_option linter.unusedVariables false


/-- Shifted down; what comes in are ones, or noughts. -/
def downW (n a : Nat) (f : Bool) : Nat := if n < 256 then a / 2 ^ n + (if f then 2 ^ (256 - n) * (2 ^ n - 1) else 0) else if f then Q256 - 1 else 0
/-- The part that comes in. -/
def inV (f : Bool) : Nat := if f then 18446744073709551615 else 0
/-- Part k, or what comes in. -/
def atV (a : Nat) (f : Bool) (k : Nat) : Nat := if k < 4 then lb a k else inV f

theorem inV_lt (f : Bool) : inV f < M64 := by cases f <;> decide
theorem atV_lt (a : Nat) (f : Bool) (k : Nat) : atV a f k < M64 := by
  unfold atV
  split
  · exact lb_lt _ _
  · exact inV_lt f

theorem inV_bit (f : Bool) (t : Nat) : (inV f).testBit t = (f && decide (t < 64)) := by
  cases f
  · simp [inV]
  · have : inV true = 2 ^ 64 - 1 := by decide
    rw [this, Nat.testBit_two_pow_sub_one]
    simp

theorem downW_bit {n a : Nat} {f : Bool} (ha : a < Q256) (hn : n < 256) (j : Nat) : (downW n a f).testBit j = if j + n < 256 then a.testBit (j + n) else (f && decide (j < 256)) := by
  unfold downW
  rw [if_pos hn]
  have hlt : a / 2 ^ n < 2 ^ (256 - n) := by
    rw [Nat.div_lt_iff_lt_mul (Nat.two_pow_pos n), ← Nat.pow_add, show 256 - n + n = 256 by omega, ← Q256_pow]
    exact ha
  cases f
  · simp only [Bool.false_eq_true, if_false, Nat.add_zero, Bool.false_and]
    rw [Nat.testBit_div_two_pow]
    split
    · rfl
    · exact Nat.testBit_lt_two_pow (Nat.lt_of_lt_of_le (Q256_pow ▸ ha) (Nat.pow_le_pow_right (by decide) (by omega)))
  · simp only [if_true, Bool.true_and]
    rw [Nat.add_comm, Nat.testBit_two_pow_mul_add _ hlt, Nat.testBit_two_pow_sub_one, Nat.testBit_div_two_pow]
    by_cases h : j < 256 - n
    · rw [if_pos h, if_pos (by omega)]
    · rw [if_neg h, if_neg (by omega), decide_eq_decide]
      omega

theorem downW_lt {n a : Nat} {f : Bool} (ha : a < Q256) : downW n a f < Q256 := by
  by_cases hn : n < 256
  · rw [Q256_pow]
    refine Nat.lt_pow_two_of_testBit _ fun i hi => ?_
    rw [downW_bit ha hn, if_neg (by omega)]
    have : ¬ i < 256 := by omega
    simp [this]
  · unfold downW
    rw [if_neg hn]
    cases f <;> decide +kernel

theorem atV_bit (a : Nat) (f : Bool) (k t : Nat) : (atV a f k).testBit t = (decide (t < 64) && (if k < 4 then a.testBit (64 * k + t) else f)) := by
  unfold atV
  split
  · rw [lb_testBit]
  · rw [inV_bit, Bool.and_comm]

theorem down_limb {a n q r i : Nat} {f : Bool} (ha : a < Q256) (hn : n = 64 * q + r) (hr : r < 64) (hn2 : n < 256) (hi : i < 4) : lb (downW n a f) i = (atV a f (i + q) / 2 ^ r) ||| (atV a f (i + q + 1) * 2 ^ (64 - r) % 2 ^ 64) := by
  refine Nat.eq_of_testBit_eq fun t => ?_
  rw [lb_testBit, downW_bit ha hn2, Nat.testBit_or, Nat.testBit_div_two_pow, Nat.testBit_mod_two_pow, Nat.testBit_mul_two_pow, atV_bit, atV_bit]
  by_cases ht : t < 64
  · have h256 : 64 * i + t < 256 := by omega
    by_cases hrt : t + r < 64
    · have h1 : ¬ 64 - r ≤ t := by omega
      by_cases h2 : i + q < 4
      · have h3 : 64 * i + t + n < 256 := by omega
        have h4 : 64 * i + t + n = 64 * (i + q) + (t + r) := by omega
        rw [if_pos h3, h4]
        simp [ht, hrt, h1, h2]
      · have h3 : ¬ 64 * i + t + n < 256 := by omega
        rw [if_neg h3]
        simp [ht, hrt, h1, h2, h256]
    · have h1 : 64 - r ≤ t := by omega
      have h5 : t - (64 - r) < 64 := by omega
      by_cases h2 : i + q + 1 < 4
      · have h3 : 64 * i + t + n < 256 := by omega
        have h4 : 64 * i + t + n = 64 * (i + q + 1) + (t - (64 - r)) := by omega
        rw [if_pos h3, h4]
        simp [ht, hrt, h1, h2, h5]
      · have h3 : ¬ 64 * i + t + n < 256 := by omega
        rw [if_neg h3]
        simp [ht, hrt, h1, h2, h5, h256]
  · have h1 : ¬ t + r < 64 := by omega
    simp [ht, h1]

theorem low_row {t : TypeId} {W : World} {k T j v : Nat} (hj : j < 4) (h : rowW t W k (T % M64 ^ j)) (hv : v = lb T j) : rowW t (W.setCell ⟨k, j, none⟩ (.int .u64 (v : Nat))) k (T % M64 ^ (j + 1)) := by
  have h1 : lb (T % M64 ^ (j + 1)) j = lb T j := by rw [lb_mod, if_pos (by omega)]
  have h2 := store_row (n' := T % M64 ^ (j + 1)) hj h fun i _ hij => by
    rw [lb_mod, lb_mod]
    by_cases h3 : i < j
    · rw [if_pos h3, if_pos (by omega)]
    · rw [if_neg h3, if_neg (by omega)]
  rwa [h1, ← hv] at h2

theorem down_far (a : Nat) (f : Bool) {n : Nat} (hn : ¬ n < 256) (i : Nat) (hi : i < 4) : lb (downW n a f) i = inV f := by
  refine Nat.eq_of_testBit_eq fun t => ?_
  rw [lb_testBit, inV_bit]
  unfold downW
  rw [if_neg hn]
  cases f
  · simp
  · have : Q256 - 1 = 2 ^ 256 - 1 := by rw [Q256_pow]
    simp only [if_true]
    rw [this, Nat.testBit_two_pow_sub_one]
    by_cases ht : t < 64
    · have : 64 * i + t < 256 := by omega
      simp [ht, this]
    · simp [ht]

theorem sar_in {a : Nat} (ha : a < Q256) : IntKind.u64.wrap (wrap64 ((lb a 3 : Nat) : Int) / 9223372036854775808) = ((inV (negB a) : Nat) : Int) := by
  have h := negB_lb ha
  have h3 := lb_lt a 3
  have hw : ∀ z : Int, IntKind.u64.wrap z = z % 18446744073709551616 := fun _ => rfl
  have h64 : wrap64 ((lb a 3 : Nat) : Int) = if 9223372036854775808 ≤ lb a 3 then ((lb a 3 : Nat) : Int) - 18446744073709551616 else ((lb a 3 : Nat) : Int) := by
    unfold wrap64 M64 at *
    split <;> omega
  rw [hw, h64]
  unfold M64 at h3
  by_cases hc : 9223372036854775808 ≤ lb a 3
  · rw [decide_eq_true hc] at h
    rw [← h, if_pos hc]
    unfold inV
    simp only [if_true]
    omega
  · rw [decide_eq_false hc] at h
    rw [← h, if_neg hc]
    unfold inV
    simp only [Bool.false_eq_true, if_false]
    omega

attribute [local irreducible] lb downW inV atV

/-- What the function at of down gives. -/
theorem at_any (a k Bi Ba : Nat) (f : Bool) (x : Int) (hx : x = (k : Nat)) (w : World) (hi : w.cell? ⟨Bi, 0, none⟩ = some (.int .u64 (inV f : Nat))) (hr : rowW 24 w Ba a) :
    Calls Try.prog 78 #[.int .i64 x, .pointer (some ⟨Bi, 0, none⟩), .pointer (some ⟨Ba, 0, none⟩)] w fun e w' => e = .returned (.int .u64 (atV a f k : Nat)) ∧ w' = w := by
  subst hx
  by_cases hk : k < 4
  · have hv : atV a f k = lb a k := by unfold atV; rw [if_pos hk]
    rw [hv]
    have hc := hr.cellAt hk
    go_enter Try.func78, Try.ntmps78
    go_wp2
    go_ret
    exact ⟨rfl, rfl⟩
  · have hv : atV a f k = inV f := by unfold atV; rw [if_neg hk]
    rw [hv]
    have hk3 : (3 : Int) < (k : Nat) := by omega
    go_enter Try.func78, Try.ntmps78
    go_wp2
    go_ret
    exact ⟨rfl, rfl⟩

set_option maxRecDepth 100000 in
set_option maxHeartbeats 4000000 in
theorem down_any (n a : Nat) (f : Bool) (hn : n < Q256) (ha : a < Q256) (w : World) :
    Calls Try.prog 69 #[W4 n, W4 a, .int .u64 (inV f : Nat)] w fun e w' => e = .returned (W4 (downW n a f)) ∧ Below w.heap.size w w' := by
  have c1 := fun W => small_any n hn W
  by_cases h256 : n < 256
  · rw [show decide (n < 256) = true from by simpa using h256, lb_self (show n < M64 by unfold M64; omega)] at c1
    obtain ⟨T, hT⟩ : ∃ T, T = downW n a f := ⟨_, rfl⟩
    rw [← hT]
    have HT' := Lib.hid hT
    clear hT
    go_enter Try.func69, Try.ntmps69
    go_wp2_with (go_at_call 70; refine (c1 _).mono ?_; rintro e wa ⟨rfl, hb_wa⟩; have hc_wa := (bcell hb_wa).1; have hf_wa := (bcell hb_wa).2; have hz_wa : _ ≤ wa.heap.size := hb_wa.size; (try simp only [World.size_alloc, World.heap_drewN, World.size_setCell, heap_drew] at hc_wa hf_wa hz_wa); have hz_wa_w_0 : w.heap.size < wa.heap.size := (by omega); have hz_wa_w_1 : w.heap.size + 1 < wa.heap.size := (by omega); have hz_wa_w_2 : w.heap.size + 1 + 1 < wa.heap.size := (by omega); have hz_wa_w_3 : w.heap.size + 1 + 1 + 1 < wa.heap.size := (by omega))
    have hTlt : T < Q256 := by rw [HT'.out]; exact downW_lt ha
    go_loopw [26] (fun i wr => ∃ j : Nat, j ≤ 4 ∧ i = .int .i64 j ∧ rowW 24 wr wa.heap.size (T % M64 ^ j) ∧ rowW 24 wr (w.heap.size + 1) a ∧ wr.cell? ⟨w.heap.size + 1 + 1, 0, none⟩ = some (.int .u64 (inV f : Nat)) ∧ rowW 24 wr (w.heap.size + 1 + 1 + 1) 0 ∧ Below w.heap.size w wr)
      (fun i _ => 4 - (intOf i).toNat)
    case atStart =>
      refine ⟨0, by omega, rfl, ?_, ?_, ?_, ?_, ?_⟩
      · rw [Nat.pow_zero, Nat.mod_one]
        exact rowW.new0 rfl
      · exact ((((rowW.new (by simp)).alloc _).alloc _).below hb_wa (by simp)).alloc _
      · go_simp
      · exact ((rowW.new0 (by simp)).below hb_wa (by simp)).alloc _
      · skip
        repeat (with_reducible first | exact Below.refl _ _ | assumption | refine below_drewN ?_ _ | refine Below.drew ?_ | refine Below.setCell ?_ (by first | omega | (simp; done) | (simp; omega)) _ | refine Below.alloc ?_ (by first | omega | (simp; done) | (simp; omega)) _ | refine Below.trans ?_ (Below.mono (by assumption) (by first | omega | (simp; done) | (simp; omega))))
    case round =>
      obtain ⟨j, hj, rfl, hrow, ra, hin, hres, hbel⟩ := hrel
      have hsz := hrow.lt
      have hrf := hrow.cells.2.2.2.2
      have hk1 : ((n : Nat) : Int) / 64 = ((n / 64 : Nat) : Int) := by omega
      have hk2 : ((n : Nat) : Int) % 64 = ((n % 64 : Nat) : Int) := by omega
      have hq4 : n / 64 < 4 := by omega
      generalize hQ : n / 64 = q at *
      generalize hR : n % 64 = r at *
      have hr64 : r < 64 := by omega
      by_cases hj4 : j < 4
      · have co := hrow.cellAt hj4
        have hlimb := down_limb (f := f) (q := q) (r := r) (i := j) ha (by omega) hr64 h256 hj4
        rw [← HT'.out] at hlimb
        have a1 := fun x hx => at_any a (j + q) (w.heap.size + 1 + 1) (w.heap.size + 1) f x hx wr hin ra
        have a2 := fun x hx => at_any a (j + q + 1) (w.heap.size + 1 + 1) (w.heap.size + 1) f x hx wr hin ra
        have hx1 := atV_lt a f (j + q)
        have hx2 := atV_lt a f (j + q + 1)
        generalize atV a f (j + q) = x at *
        generalize atV a f (j + q + 1) = y at *
        have hw1 : IntKind.u64.wrap (((y : Nat) : Int) * 2 ^ (64 - r)) = ((y * 2 ^ (64 - r) % 2 ^ 64 : Nat) : Int) := by
          have e : ((y : Nat) : Int) * 2 ^ (64 - r) = ((y * 2 ^ (64 - r) : Nat) : Int) := by push_cast; rfl
          rw [e, u64_wrap_mod]
        have hzl : y * 2 ^ (64 - r) % 2 ^ 64 < M64 := Nat.mod_lt _ (by decide)
        generalize y * 2 ^ (64 - r) % 2 ^ 64 = z at *
        have hor : bits .or .u64 (((x : Nat) : Int) / 2 ^ r) ((z : Nat) : Int) = ((lb T j : Nat) : Int) := by
          have e : ((x : Nat) : Int) / 2 ^ r = ((x / 2 ^ r : Nat) : Int) := by push_cast; rfl
          rw [e, u64_or_nat _ _ (Nat.lt_of_le_of_lt (Nat.div_le_self _ _) hx1) hzl, hlimb]
        clear hlimb
        go_wp2_with (first | (go_at_call 78; refine (a1 _ (by omega)).mono ?_; rintro e wb ⟨rfl, rfl⟩) | (go_at_call 78; refine (a2 _ (by omega)).mono ?_; rintro e wb ⟨rfl, rfl⟩))
        go_roundw
        case rel =>
          refine ⟨j + 1, by omega, by go_num, low_row hj4 hrow rfl, ra.set (by omega), ?_, hres.set (by omega), ?_⟩
          · go_simp
          repeat (with_reducible first | exact Below.refl _ _ | assumption | refine below_drewN ?_ _ | refine Below.drew ?_ | refine Below.setCell ?_ (by first | omega | (simp; done) | (simp; omega)) _ | refine Below.alloc ?_ (by first | omega | (simp; done) | (simp; omega)) _ | refine Below.trans ?_ (Below.mono (by assumption) (by first | omega | (simp; done) | (simp; omega))))
        case measure => simp [intOf]; omega
      · obtain rfl : j = 4 := by omega
        rw [M64_four, Nat.mod_eq_of_lt hTlt] at hrow
        obtain ⟨t0, t1, t2, t3, tf⟩ := hrow.cells
        obtain ⟨z0, z1, z2, z3, zf⟩ := hres.cells
        clear hrow hrf hres ra
        go_wp2
        refine bodyPost_ret (by simp only [results, Try.results69]; go_simp) rfl ⟨rfl, ?_⟩
        repeat (with_reducible first | exact Below.refl _ _ | assumption | refine below_drewN ?_ _ | refine Below.drew ?_ | refine Below.setCell ?_ (by first | omega | (simp; done) | (simp; omega)) _ | refine Below.alloc ?_ (by first | omega | (simp; done) | (simp; omega)) _ | refine Below.trans ?_ (Below.mono (by assumption) (by first | omega | (simp; done) | (simp; omega))))
  · rw [show decide (n < 256) = false from by simpa using h256] at c1
    have hd : W4 (downW n a f) = .agg #[.int .u64 (inV f : Nat), .int .u64 (inV f : Nat), .int .u64 (inV f : Nat), .int .u64 (inV f : Nat)] := by
      unfold W4
      rw [down_far a f h256 0 (by decide), down_far a f h256 1 (by decide), down_far a f h256 2 (by decide), down_far a f h256 3 (by decide)]
    rw [hd]
    clear hd
    go_enter Try.func69, Try.ntmps69
    go_wp2_with (go_at_call 70; refine (c1 _).mono ?_; rintro e wa ⟨rfl, hb_wa⟩; have hc_wa := (bcell hb_wa).1; have hf_wa := (bcell hb_wa).2; have hz_wa : _ ≤ wa.heap.size := hb_wa.size; (try simp only [World.size_alloc, World.heap_drewN, World.size_setCell, heap_drew] at hc_wa hf_wa hz_wa); have hz_wa_w_0 : w.heap.size < wa.heap.size := (by omega); have hz_wa_w_1 : w.heap.size + 1 < wa.heap.size := (by omega); have hz_wa_w_2 : w.heap.size + 1 + 1 < wa.heap.size := (by omega); have hz_wa_w_3 : w.heap.size + 1 + 1 + 1 < wa.heap.size := (by omega))
    refine bodyPost_ret (by simp only [results, Try.results69]; go_simp) rfl ⟨rfl, ?_⟩
    repeat (with_reducible first | exact Below.refl _ _ | assumption | refine below_drewN ?_ _ | refine Below.drew ?_ | refine Below.setCell ?_ (by first | omega | (simp; done) | (simp; omega)) _ | refine Below.alloc ?_ (by first | omega | (simp; done) | (simp; omega)) _ | refine Below.trans ?_ (Below.mono (by assumption) (by first | omega | (simp; done) | (simp; omega))))

/-- Shr. -/
theorem Shr_any (n a : Nat) (hn : n < Q256) (ha : a < Q256) (w : World) :
    Calls Try.prog 37 #[W4 n, W4 a] w fun e w' => e = .returned (W4 (downW n a false)) ∧ Below w.heap.size w w' := by
  have c1 := fun W => down_any n a false hn ha W
  rw [show ((inV false : Nat) : Int) = 0 from by unfold inV; rfl] at c1
  generalize downW n a false = T at *
  go_enter Try.func37, Try.ntmps37
  go_wp2_with (go_at_call 69; refine (c1 _).mono ?_; rintro e wa ⟨rfl, hb_wa⟩; have hc_wa := (bcell hb_wa).1; have hf_wa := (bcell hb_wa).2; have hz_wa : _ ≤ wa.heap.size := hb_wa.size; (try simp only [World.size_alloc, World.heap_drewN, World.size_setCell, heap_drew] at hc_wa hf_wa hz_wa); have hz_wa_w_0 : w.heap.size < wa.heap.size := (by omega); have hz_wa_w_1 : w.heap.size + 1 < wa.heap.size := (by omega); have hz_wa_w_2 : w.heap.size + 1 + 1 < wa.heap.size := (by omega))
  refine bodyPost_ret (by simp only [results, Try.results37]; go_simp) rfl ⟨rfl, ?_⟩
  repeat (with_reducible first | exact Below.refl _ _ | assumption | refine below_drewN ?_ _ | refine Below.drew ?_ | refine Below.setCell ?_ (by first | omega | (simp; done) | (simp; omega)) _ | refine Below.alloc ?_ (by first | omega | (simp; done) | (simp; omega)) _ | refine Below.trans ?_ (Below.mono (by assumption) (by first | omega | (simp; done) | (simp; omega))))

/-- Sar. -/
theorem Sar_any (n a : Nat) (hn : n < Q256) (ha : a < Q256) (w : World) :
    Calls Try.prog 47 #[W4 n, W4 a] w fun e w' => e = .returned (W4 (downW n a (negB a))) ∧ Below w.heap.size w w' := by
  have c1 := fun W => down_any n a (negB a) hn ha W
  have hs := sar_in ha
  generalize downW n a (negB a) = T at *
  generalize inV (negB a) = z at *
  go_enter Try.func47, Try.ntmps47
  go_wp2_with (go_at_call 69; refine (c1 _).mono ?_; rintro e wa ⟨rfl, hb_wa⟩; have hc_wa := (bcell hb_wa).1; have hf_wa := (bcell hb_wa).2; have hz_wa : _ ≤ wa.heap.size := hb_wa.size; (try simp only [World.size_alloc, World.heap_drewN, World.size_setCell, heap_drew] at hc_wa hf_wa hz_wa); have hz_wa_w_0 : w.heap.size < wa.heap.size := (by omega); have hz_wa_w_1 : w.heap.size + 1 < wa.heap.size := (by omega); have hz_wa_w_2 : w.heap.size + 1 + 1 < wa.heap.size := (by omega))
  refine bodyPost_ret (by simp only [results, Try.results47]; go_simp) rfl ⟨rfl, ?_⟩
  repeat (with_reducible first | exact Below.refl _ _ | assumption | refine below_drewN ?_ _ | refine Below.drew ?_ | refine Below.setCell ?_ (by first | omega | (simp; done) | (simp; omega)) _ | refine Below.alloc ?_ (by first | omega | (simp; done) | (simp; omega)) _ | refine Below.trans ?_ (Below.mono (by assumption) (by first | omega | (simp; done) | (simp; omega))))
end Go.Proofs.Ytmegpggpndjjcaa
