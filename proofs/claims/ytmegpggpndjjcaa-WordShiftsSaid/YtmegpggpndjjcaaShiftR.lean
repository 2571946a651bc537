/-
  Contracts of the document's shifts. Conditions: none.
-/
import Derived.Test.YtmegpggpndjjcaaR2
import Derived.Test.YtmegpggpndjjcaaDown
import Derived.Test.YtmegpggpndjjcaaDiv
namespace Go.Proofs.Ytmegpggpndjjcaa
open Go.RowKit
attribute [local go_sem] leftBy
set_option linter.unusedSimpArgs false
set_option linter.unusedVariables false


/-- The number of the lowest n of the bits f. -/
def ofB (f : Nat → Bool) : Nat → Nat
  | 0 => 0
  | n + 1 => if f n then ofB f n ||| 2 ^ n else ofB f n

theorem ofB_bit (f : Nat → Bool) : ∀ n j, (ofB f n).testBit j = (decide (j < n) && f j)
  | 0, j => by simp [ofB]
  | n + 1, j => by
    unfold ofB
    by_cases hf : f n = true
    · rw [if_pos hf, Nat.testBit_or, ofB_bit f n, Nat.testBit_two_pow]
      by_cases h : n = j
      · subst h
        simp [hf]
      · by_cases h2 : j < n
        · simp [h, h2, show j < n + 1 by omega]
        · simp [h, h2, show ¬ j < n + 1 by omega]
    · rw [if_neg hf, ofB_bit f n]
      by_cases h : n = j
      · subst h
        simp [hf]
      · by_cases h2 : j < n
        · simp [h2, show j < n + 1 by omega]
        · simp [h2, show ¬ j < n + 1 by omega]

theorem ofB_lt (f : Nat → Bool) {n : Nat} (h : n ≤ 256) : ofB f n < Q256 := by
  rw [Q256_pow]
  refine Nat.lt_pow_two_of_testBit _ fun i hi => ?_
  rw [ofB_bit]
  have : ¬ i < n := by omega
  simp [this]

theorem ofB_eq {f : Nat → Bool} {a : Nat} (ha : a < Q256) (h : ∀ j, j < 256 → f j = a.testBit j) : ofB f 256 = a := by
  refine Nat.eq_of_testBit_eq fun j => ?_
  rw [ofB_bit]
  by_cases hj : j < 256
  · simp [hj, h j hj]
  · have : a.testBit j = false := Nat.testBit_lt_two_pow (Nat.lt_of_lt_of_le (Q256_pow ▸ ha) (Nat.pow_le_pow_right (by decide) (by omega)))
    simp [hj, this]

theorem bitsOf_bit (a k : Nat) : bitsOf a k = a.testBit k := by
  unfold bitsOf bitOf
  rw [Nat.testBit_eq_decide_div_mod_eq]
  rfl

theorem ofB_zero (f : Nat → Bool) : ofB f 0 = 0 := rfl
theorem ofB_succ (f : Nat → Bool) (n : Nat) : ofB f (n + 1) = if f n then ofB f n ||| 2 ^ n else ofB f n := rfl

/-- One bit more in the part where it lies, as the code computes it. -/
theorem or_pow_bits {q i : Nat} (hi : i < 256) : bits .or .u64 ((lb q (i / 64) : Nat) : Int) (IntKind.u64.wrap (2 ^ (i % 64))) = ((lb (q ||| 2 ^ i) (i / 64) : Nat) : Int) := by
  have h2 : 2 ^ (i % 64) < 18446744073709551616 := (Nat.pow_lt_pow_right (by decide) (show i % 64 < 64 by omega) : 2 ^ (i % 64) < 2 ^ 64)
  have h3 : IntKind.u64.wrap ((2 : Int) ^ (i % 64)) = ((2 ^ (i % 64) : Nat) : Int) := by
    have e : ((2 : Int) ^ (i % 64)) = ((2 ^ (i % 64) : Nat) : Int) := by push_cast; rfl
    have h4 : ∀ z : Nat, z < 18446744073709551616 → IntKind.u64.wrap (z : Int) = (z : Int) := fun z hz => IntWalk.u64_in _ (by omega)
    rw [e]
    exact h4 _ h2
  rw [h3, u64_or_nat _ _ (lb_lt _ _) h2, lb_or_pow, if_pos rfl]

attribute [local irreducible] lb bitsOf bitOf bitA ofB

set_option maxRecDepth 100000 in
set_option maxHeartbeats 4000000 in
/-- ofBits. -/
theorem ref_ofBits (f : Nat → Bool) (w : World) :
    Calls Try.prog 74 #[.agg (bitA f)] w fun e w' => e = .returned (W4 (ofB f 256)) ∧ Below w.heap.size w w' := by
  go_enter Try.func74, Try.ntmps74
  go_wp2
  go_loopw [4] (fun i wr => ∃ j : Nat, j ≤ 256 ∧ i = .int .i64 j ∧ rowW 24 wr (w.heap.size + 1 + 1) (ofB f j) ∧ rowA wr w.heap.size f ∧ rowW 24 wr (w.heap.size + 1) 0 ∧ Below w.heap.size w wr)
    (fun i _ => 256 - (intOf i).toNat)
  case atStart =>
    refine ⟨0, by omega, rfl, ?_, ((rowA.new rfl).alloc _).alloc _, (rowW.new0 (by simp)).alloc _, ?_⟩
    · rw [ofB_zero]
      exact rowW.new0 (by simp)
    · skip
      repeat (with_reducible first | exact Below.refl _ _ | assumption | refine below_drewN ?_ _ | refine Below.drew ?_ | refine below_setRow' ?_ (by first | omega | (simp; done) | (simp; omega)) _ | refine Below.setCell ?_ (by first | omega | (simp; done) | (simp; omega)) _ | refine Below.alloc ?_ (by first | omega | (simp; done) | (simp; omega)) _ | refine Below.trans ?_ (Below.mono (by assumption) (by first | omega | (simp; done) | (simp; omega))))
  case round =>
    obtain ⟨j, hj, rfl, hrow, hf, hres, hbel⟩ := hrel
    have hsz := hrow.lt
    have hrf := hrow.cells.2.2.2.2
    by_cases h256 : j < 256
    · have cf := hf.cellAt h256
      have hb1 := ofB_succ f j
      cases hfj : f j
      · rw [hfj] at cf hb1
        rw [if_neg (by decide)] at hb1
        clear hfj
        go_wp2
        go_roundw
        case rel => exact ⟨j + 1, by omega, by go_num, by rw [hb1]; exact hrow, hf, hres, hbel⟩
        case measure => simp [intOf]; omega
      · rw [hfj] at cf hb1
        rw [if_pos rfl] at hb1
        clear hfj
        have co := hrow.cellAt (j := j / 64) (by omega)
        have hor2 := or_pow_bits (q := ofB f j) h256
        have hi1 : 0 ≤ (j : Int) / 64 := by omega
        have hi2 : (j : Int) / 64 < 4 := by omega
        have hi3 : ((j : Int) / 64).toNat = j / 64 := by omega
        have hi4 : 0 ≤ (j : Int) % 64 := by omega
        have hi5 : (j : Int) % 64 ≤ 64 := by omega
        have hi6 : ((j : Int) % 64).toNat = j % 64 := by omega
        go_wp2
        first | refine wp_flow (fun k => ([1, 1, 1, 1, 1, 1, 1, 1, 1, 1, 1, 2] : List Nat).getD k 1) Dr _ (Dr.next _ _) (by kernel_rfl) (by kernel_rfl) ?_ | refine wp_flow (fun k => ([1, 1, 1, 1, 1, 1, 1, 1, 1, 1, 1, 2] : List Nat).getD k 1) Dr _ (Dr.one _) (by kernel_rfl) (by kernel_rfl) ?_
        (refine flow_quiet rfl rfl (fun K hK => ?_); apply Exists.intro; apply And.intro; (focus (rintro w' ⟨nn, rfl⟩; go_simp; (try go_bits); exact ⟨rfl, Dr.of _ _⟩)); go_simp; (try go_bits); refine hK _ ?_; clear hK K)
        (refine flow_quiet rfl rfl (fun K hK => ?_); apply Exists.intro; apply And.intro; (focus (rintro w' ⟨nn, rfl⟩; go_simp; (try go_bits); exact ⟨rfl, Dr.of _ _⟩)); go_simp; (try go_bits); refine hK _ ?_; clear hK K)
        (refine flow_quiet rfl rfl (fun K hK => ?_); apply Exists.intro; apply And.intro; (focus (rintro w' ⟨nn, rfl⟩; go_simp; (try go_bits); exact ⟨rfl, Dr.of _ _⟩)); go_simp; (try go_bits); refine hK _ ?_; clear hK K)
        (refine flow_quiet rfl rfl (fun K hK => ?_); apply Exists.intro; apply And.intro; (focus (rintro w' ⟨nn, rfl⟩; go_simp; (try go_bits); exact ⟨rfl, Dr.of _ _⟩)); go_simp; (try go_bits); refine hK _ ?_; clear hK K)
        (refine flow_quiet rfl rfl (fun K hK => ?_); apply Exists.intro; apply And.intro; (focus (rintro w' ⟨nn, rfl⟩; go_simp; (try go_bits); exact ⟨rfl, Dr.of _ _⟩)); go_simp; (try go_bits); refine hK _ ?_; clear hK K)
        (refine flow_quiet rfl rfl (fun K hK => ?_); apply Exists.intro; apply And.intro; (focus (rintro w' ⟨nn, rfl⟩; go_simp; (try go_bits); exact ⟨rfl, Dr.of _ _⟩)); go_simp; (try go_bits); refine hK _ ?_; clear hK K)
        (refine flow_quiet rfl rfl (fun K hK => ?_); apply Exists.intro; apply And.intro; (focus (rintro w' ⟨nn, rfl⟩; go_simp; (try go_bits); exact ⟨rfl, Dr.of _ _⟩)); go_simp; (try go_bits); refine hK _ ?_; clear hK K)
        (refine flow_quiet rfl rfl (fun K hK => ?_); apply Exists.intro; apply And.intro; (focus (rintro w' ⟨nn, rfl⟩; go_simp; (try go_bits); exact ⟨rfl, Dr.of _ _⟩)); go_simp; (try go_bits); refine hK _ ?_; clear hK K)
        (refine flow_quiet rfl rfl (fun K hK => ?_); apply Exists.intro; apply And.intro; (focus (rintro w' ⟨nn, rfl⟩; go_simp; (try go_bits); exact ⟨rfl, Dr.of _ _⟩)); go_simp; (try go_bits); refine hK _ ?_; clear hK K)
        (refine flow_quiet rfl rfl (fun K hK => ?_); apply Exists.intro; apply And.intro; (focus (rintro w' ⟨nn, rfl⟩; go_simp; (try go_bits); exact ⟨rfl, Dr.of _ _⟩)); go_simp; (try go_bits); refine hK _ ?_; clear hK K)
        (refine flow_quiet rfl rfl (fun K hK => ?_); apply Exists.intro; apply And.intro; (focus (rintro w' ⟨nn, rfl⟩; go_simp; (try go_bits); exact ⟨rfl, Dr.of _ _⟩)); go_simp; (try go_bits); refine hK _ ?_; clear hK K)
        (refine flow_eff rfl rfl (fun K hK => ?_); apply Exists.intro; apply Exists.intro; apply And.intro; (focus (rintro w' ⟨nn, rfl⟩; go_simp; (try go_bits); refine ⟨rfl, ?_⟩; with_reducible first | exact Dr.store _ _ _ _ | exact Dr.store4 _ _ _ _ _ _ _ _ _ _)); go_simp; (try go_bits); refine hK _ _ ?_; clear hK K)
        refine flow_nil ?_
        rintro w' ⟨nq, rfl⟩
        go_wp2
        go_roundw
        case rel =>
          refine ⟨j + 1, by omega, by go_num, ?_, (hf.set (by omega)).drewN _, (hres.set (by omega)).drewN _, ?_⟩
          · rw [hb1]
            exact (or_row h256 hrow).drewN _
          repeat (with_reducible first | exact Below.refl _ _ | assumption | refine below_drewN ?_ _ | refine Below.drew ?_ | refine below_setRow' ?_ (by first | omega | (simp; done) | (simp; omega)) _ | refine Below.setCell ?_ (by first | omega | (simp; done) | (simp; omega)) _ | refine Below.alloc ?_ (by first | omega | (simp; done) | (simp; omega)) _ | refine Below.trans ?_ (Below.mono (by assumption) (by first | omega | (simp; done) | (simp; omega))))
        case measure => simp [intOf]; omega
    · obtain rfl : j = 256 := by omega
      obtain ⟨t0, t1, t2, t3, tf⟩ := hrow.cells
      obtain ⟨z0, z1, z2, z3, zf⟩ := hres.cells
      clear hrow hrf hres hf
      go_wp2
      refine bodyPost_ret (by simp only [results, Try.results74]; go_simp) rfl ⟨rfl, ?_⟩
      repeat (with_reducible first | exact Below.refl _ _ | assumption | refine below_drewN ?_ _ | refine Below.drew ?_ | refine below_setRow' ?_ (by first | omega | (simp; done) | (simp; omega)) _ | refine Below.setCell ?_ (by first | omega | (simp; done) | (simp; omega)) _ | refine Below.alloc ?_ (by first | omega | (simp; done) | (simp; omega)) _ | refine Below.trans ?_ (Below.mono (by assumption) (by first | omega | (simp; done) | (simp; omega))))

/-- upTo: a word's number, cut. -/
theorem ref_upTo (n m : Nat) (hn : n < Q256) (hm : m < 1000) (w : World) :
    Calls Try.prog 73 #[W4 n, .int .u64 (m : Nat)] w fun e w' => e = .returned (.int .i64 (min n m : Nat)) ∧ Below w.heap.size w w' := by
  have hmM : m < M64 := by unfold M64; omega
  have hmQ : m < Q256 := by unfold Q256; omega
  have c1 := fun W => ref_Of m hmM W
  have c2 := fun W => ref_Less m n hmQ hn W
  have hm64 : wrap64 ((m : Nat) : Int) = ((m : Nat) : Int) := by unfold wrap64; omega
  by_cases h : m < n
  · rw [show ltB m n = true from by unfold ltB; simpa using h] at c2
    rw [Nat.min_eq_right (by omega)]
    clear h
    go_enter Try.func73, Try.ntmps73
    go_wp2
    refine wp_flow (fun k => ([1, 1, 1, 1] : List Nat).getD k 1) (Below (w.heap.size + 1)) _ (Below.drew (Below.refl _ _)) (by kernel_rfl) (by kernel_rfl) ?_
    (refine flow_quiet rfl rfl (fun K hK => ?_); apply Exists.intro; apply And.intro; (focus (intro w' hw'; have hc := (bcell hw').1; go_simp; (try go_bits); all_goals (first | exact rfl | exact ⟨rfl, hw'⟩))); go_simp; (try go_bits); refine hK _ ?_; clear hK K)
    first | (refine flow_quiet rfl rfl (fun K hK => ?_); apply Exists.intro; apply And.intro; (focus (intro w' hw'; have hc := (bcell hw').1; go_simp; (try go_bits); all_goals (go_at_call 36; with_reducible refine (c1 _).mono ?_; rintro e w2 ⟨rfl, hb⟩; exact ⟨rfl, hw'.trans (hb.mono (below_le hw' (by simp)))⟩))); go_simp; (try go_bits); refine hK _ ?_; clear hK K) | (refine flow_quiet rfl rfl (fun K hK => ?_); apply Exists.intro; apply And.intro; (focus (intro w' hw'; have hc := (bcell hw').1; go_simp; (try go_bits); all_goals (go_at_call 36; refine (c1 _).mono ?_; rintro e w2 ⟨rfl, hb⟩; exact ⟨rfl, hw'.trans (hb.mono (below_le hw' (by simp)))⟩))); go_simp; (try go_bits); refine hK _ ?_; clear hK K)
    (refine flow_quiet rfl rfl (fun K hK => ?_); apply Exists.intro; apply And.intro; (focus (intro w' hw'; have hc := (bcell hw').1; go_simp; (try go_bits); all_goals (first | exact rfl | exact ⟨rfl, hw'⟩))); go_simp; (try go_bits); refine hK _ ?_; clear hK K)
    first | (refine flow_quiet rfl rfl (fun K hK => ?_); apply Exists.intro; apply And.intro; (focus (intro w' hw'; have hc := (bcell hw').1; go_simp; (try go_bits); all_goals (go_at_call 53; with_reducible refine (c2 _).mono ?_; rintro e w2 ⟨rfl, hb⟩; exact ⟨rfl, hw'.trans (hb.mono (below_le hw' (by simp)))⟩))); go_simp; (try go_bits); refine hK _ ?_; clear hK K) | (refine flow_quiet rfl rfl (fun K hK => ?_); apply Exists.intro; apply And.intro; (focus (intro w' hw'; have hc := (bcell hw').1; go_simp; (try go_bits); all_goals (go_at_call 53; refine (c2 _).mono ?_; rintro e w2 ⟨rfl, hb⟩; exact ⟨rfl, hw'.trans (hb.mono (below_le hw' (by simp)))⟩))); go_simp; (try go_bits); refine hK _ ?_; clear hK K)
    refine flow_nil ?_
    intro w' hw'
    have hc_w' := (bcell hw').1; have hf_w' := (bcell hw').2; have hz_w' : _ ≤ w'.heap.size := hw'.size; (try simp only [World.size_alloc, World.heap_drewN, World.size_setCell, heap_drew] at hc_w' hf_w' hz_w'); have hz_w'_w_0 : w.heap.size < w'.heap.size := (by omega)
    go_wp2
    go_ret
    refine ⟨rfl, ?_⟩
    repeat (with_reducible first | exact Below.refl _ _ | assumption | refine below_drewN ?_ _ | refine Below.drew ?_ | refine below_setRow' ?_ (by first | omega | (simp; done) | (simp; omega)) _ | refine Below.setCell ?_ (by first | omega | (simp; done) | (simp; omega)) _ | refine Below.alloc ?_ (by first | omega | (simp; done) | (simp; omega)) _ | refine Below.trans ?_ (Below.mono (by assumption) (by first | omega | (simp; done) | (simp; omega))))
  · rw [show ltB m n = false from by unfold ltB; simpa using h] at c2
    rw [Nat.min_eq_left (by omega)]
    have hl := lb_self (n := n) (by unfold M64; omega)
    have hn64 : wrap64 ((lb n 0 : Nat) : Int) = ((n : Nat) : Int) := by rw [hl]; unfold wrap64; omega
    clear h hl
    go_enter Try.func73, Try.ntmps73
    go_wp2
    refine wp_flow (fun k => ([1, 1, 1, 1] : List Nat).getD k 1) (Below (w.heap.size + 1)) _ (Below.drew (Below.refl _ _)) (by kernel_rfl) (by kernel_rfl) ?_
    (refine flow_quiet rfl rfl (fun K hK => ?_); apply Exists.intro; apply And.intro; (focus (intro w' hw'; have hc := (bcell hw').1; go_simp; (try go_bits); all_goals (first | exact rfl | exact ⟨rfl, hw'⟩))); go_simp; (try go_bits); refine hK _ ?_; clear hK K)
    first | (refine flow_quiet rfl rfl (fun K hK => ?_); apply Exists.intro; apply And.intro; (focus (intro w' hw'; have hc := (bcell hw').1; go_simp; (try go_bits); all_goals (go_at_call 36; with_reducible refine (c1 _).mono ?_; rintro e w2 ⟨rfl, hb⟩; exact ⟨rfl, hw'.trans (hb.mono (below_le hw' (by simp)))⟩))); go_simp; (try go_bits); refine hK _ ?_; clear hK K) | (refine flow_quiet rfl rfl (fun K hK => ?_); apply Exists.intro; apply And.intro; (focus (intro w' hw'; have hc := (bcell hw').1; go_simp; (try go_bits); all_goals (go_at_call 36; refine (c1 _).mono ?_; rintro e w2 ⟨rfl, hb⟩; exact ⟨rfl, hw'.trans (hb.mono (below_le hw' (by simp)))⟩))); go_simp; (try go_bits); refine hK _ ?_; clear hK K)
    (refine flow_quiet rfl rfl (fun K hK => ?_); apply Exists.intro; apply And.intro; (focus (intro w' hw'; have hc := (bcell hw').1; go_simp; (try go_bits); all_goals (first | exact rfl | exact ⟨rfl, hw'⟩))); go_simp; (try go_bits); refine hK _ ?_; clear hK K)
    first | (refine flow_quiet rfl rfl (fun K hK => ?_); apply Exists.intro; apply And.intro; (focus (intro w' hw'; have hc := (bcell hw').1; go_simp; (try go_bits); all_goals (go_at_call 53; with_reducible refine (c2 _).mono ?_; rintro e w2 ⟨rfl, hb⟩; exact ⟨rfl, hw'.trans (hb.mono (below_le hw' (by simp)))⟩))); go_simp; (try go_bits); refine hK _ ?_; clear hK K) | (refine flow_quiet rfl rfl (fun K hK => ?_); apply Exists.intro; apply And.intro; (focus (intro w' hw'; have hc := (bcell hw').1; go_simp; (try go_bits); all_goals (go_at_call 53; refine (c2 _).mono ?_; rintro e w2 ⟨rfl, hb⟩; exact ⟨rfl, hw'.trans (hb.mono (below_le hw' (by simp)))⟩))); go_simp; (try go_bits); refine hK _ ?_; clear hK K)
    refine flow_nil ?_
    intro w' hw'
    have hc_w' := (bcell hw').1; have hf_w' := (bcell hw').2; have hz_w' : _ ≤ w'.heap.size := hw'.size; (try simp only [World.size_alloc, World.heap_drewN, World.size_setCell, heap_drew] at hc_w' hf_w' hz_w'); have hz_w'_w_0 : w.heap.size < w'.heap.size := (by omega)
    go_wp2
    go_ret
    refine ⟨?_, ?_⟩
    · show Ending.returned (.int .i64 (wrap64 ((lb n 0 : Nat) : Int))) = _
      rw [hn64]
    repeat (with_reducible first | exact Below.refl _ _ | assumption | refine below_drewN ?_ _ | refine Below.drew ?_ | refine below_setRow' ?_ (by first | omega | (simp; done) | (simp; omega)) _ | refine Below.setCell ?_ (by first | omega | (simp; done) | (simp; omega)) _ | refine Below.alloc ?_ (by first | omega | (simp; done) | (simp; omega)) _ | refine Below.trans ?_ (Below.mono (by assumption) (by first | omega | (simp; done) | (simp; omega))))

/-- The bits of a word that is shifted up. -/
def upB (n a : Nat) : Nat → Bool := fun k => decide (n ≤ k) && bitsOf a (k - n)

theorem upB_of {n a : Nat} : ofB (upB (min n 256) a) 256 = shlW n a := by
  refine ofB_eq (shlW_lt n a) fun j hj => ?_
  unfold upB shlW
  rw [bitsOf_bit]
  by_cases h : n < 256
  · rw [Nat.min_eq_left (by omega), if_pos h, Q256_pow, Nat.testBit_mod_two_pow, Nat.testBit_mul_two_pow]
    simp [hj]
  · rw [Nat.min_eq_right (by omega), if_neg h]
    have : ¬ 256 ≤ j := by omega
    simp [this]

/-- The bits of a word that is shifted down. -/
def downB (n a : Nat) (f : Bool) : Nat → Bool := fun k => if k + n < 256 then bitsOf a (k + n) else f

theorem downB_of {n a : Nat} {f : Bool} (ha : a < Q256) : ofB (downB (min n 256) a f) 256 = downW n a f := by
  refine ofB_eq (downW_lt ha) fun j hj => ?_
  unfold downB
  by_cases h : n < 256
  · rw [Nat.min_eq_left (by omega), downW_bit ha h, bitsOf_bit]
    simp [hj]
  · rw [Nat.min_eq_right (by omega), if_neg (by omega)]
    unfold downW
    rw [if_neg h]
    cases f
    · simp
    · simp only [if_true]
      rw [show Q256 - 1 = 2 ^ 256 - 1 by rw [Q256_pow], Nat.testBit_two_pow_sub_one]
      simp [hj]

/-- The bits of a word that is shifted up, those below j alone. -/
def upT (n a j : Nat) : Nat → Bool := fun k => decide (k < j) && upB n a k
theorem upT_all (n a k : Nat) (h : k < 256) : upT n a 256 k = upB n a k := by unfold upT; simp [h]
theorem upT_low (n a k : Nat) : upT n a n k = false := by
  unfold upT upB
  by_cases h : k < n
  · have : ¬ n ≤ k := by omega
    simp [this]
  · simp [h]
theorem upT_succ (n a j k : Nat) (h : n ≤ j) : (if k = j then bitsOf a (j - n) else upT n a j k) = upT n a (j + 1) k := by
  unfold upT upB
  by_cases hk : k = j
  · subst hk
    simp [h]
  · rw [if_neg hk]
    congr 1
    rw [decide_eq_decide]
    omega
def downT (n a : Nat) (f : Bool) (j : Nat) : Nat → Bool := fun k => decide (k < j) && downB n a f k
theorem downT_all (n a : Nat) (f : Bool) (k : Nat) (h : k < 256) : downT n a f 256 k = downB n a f k := by unfold downT; simp [h]
theorem downT_low (n a : Nat) (f : Bool) (k : Nat) : downT n a f 0 k = false := by unfold downT; simp
theorem downT_in (n a : Nat) (f : Bool) (j k : Nat) (h : ¬ j + n < 256) : (if k = j then f else downT n a f j k) = downT n a f (j + 1) k := by
  unfold downT downB
  by_cases hk : k = j
  · subst hk
    rw [if_pos rfl, if_neg h]
    simp
  · rw [if_neg hk]
    congr 1
    rw [decide_eq_decide]
    omega
theorem downT_bit (n a : Nat) (f : Bool) (j k : Nat) (h : j + n < 256) : (if k = j then bitsOf a (j + n) else if k = j then f else downT n a f j k) = downT n a f (j + 1) k := by
  unfold downT downB
  by_cases hk : k = j
  · subst hk
    rw [if_pos rfl, if_pos h]
    simp
  · rw [if_neg hk, if_neg hk]
    congr 1
    rw [decide_eq_decide]
    omega

attribute [local irreducible] upB upT downB downT shlW downW

set_option maxRecDepth 100000 in
set_option maxHeartbeats 4000000 in
/-- The document's Shl. -/
theorem ref_Shl (n a : Nat) (hn : n < Q256) (ha : a < Q256) (w : World) :
    Calls Try.prog 45 #[W4 n, W4 a] w fun e w' => e = .returned (W4 (shlW n a)) ∧ Below w.heap.size w w' := by
  have hz := zeroA
  have c0 : ∀ W, Calls Try.prog 73 #[W4 n, .int .u64 256] W fun e w' => e = .returned (.int .i64 (min n 256 : Nat)) ∧ Below W.heap.size W w' := fun W => ref_upTo n 256 hn (by decide) W
  have c2 := fun W => ref_ofBits (upB (min n 256) a) W
  rw [upB_of] at c2
  generalize shlW n a = T at *
  have hm : min n 256 ≤ 256 := Nat.min_le_right _ _
  generalize min n 256 = m at *
  go_enter Try.func45, Try.ntmps45
  go_wp2_with (first | (go_at_call 73; with_reducible refine (c0 _).mono ?_; rintro e w0 ⟨rfl, hb_w0⟩; have hc_w0 := (bcell hb_w0).1; have hf_w0 := (bcell hb_w0).2; have hz_w0 : _ ≤ w0.heap.size := hb_w0.size; (try simp only [World.size_alloc, World.heap_drewN, World.size_setCell, heap_drew] at hc_w0 hf_w0 hz_w0); have hz_w0_w_0 : w.heap.size < w0.heap.size := (by omega); have hz_w0_w_1 : w.heap.size + 1 < w0.heap.size := (by omega); have hz_w0_w_2 : w.heap.size + 1 + 1 < w0.heap.size := (by omega)) | (go_at_call 68; refine (ref_Bits a ha _).mono ?_; rintro e w1 ⟨rfl, hb_w1⟩; have hc_w1 := (bcell hb_w1).1; have hf_w1 := (bcell hb_w1).2; have hz_w1 : _ ≤ w1.heap.size := hb_w1.size; (try simp only [World.size_alloc, World.heap_drewN, World.size_setCell, heap_drew] at hc_w1 hf_w1 hz_w1); have hz_w1_w_0 : w.heap.size < w1.heap.size := (by omega); have hz_w1_w_1 : w.heap.size + 1 < w1.heap.size := (by omega); have hz_w1_w_2 : w.heap.size + 1 + 1 < w1.heap.size := (by omega); have hbz := bitA_size (bitsOf a); have hst := (storeA' (bitsOf a) (rowA.new (W := w1) (f := fun _ => false) rfl)).trans (congrArg _ (World.setRow_alloc_new w1 (bitA fun _ => false) (bitA (bitsOf a)) 56))))
  clear hbz hst
  go_loopw [8] (fun i wr => ∃ j : Nat, m ≤ j ∧ j ≤ 256 ∧ i = .int .i64 j ∧ rowA wr (w1.heap.size + 1) (upT m a j) ∧ rowA wr w1.heap.size (bitsOf a) ∧ rowW 24 wr (w.heap.size + 1 + 1) 0 ∧ Below w.heap.size w wr)
    (fun i _ => 256 - (intOf i).toNat)
  case atStart =>
    refine ⟨m, Nat.le_refl _, hm, rfl, (rowA.new (by simp)).to fun k _ => (upT_low m a k).symm, (rowA.new rfl).alloc _, ?_, ?_⟩
    · exact ((((rowW.new0 (by simp)).below hb_w0 (by simp)).below hb_w1 (by omega)).alloc _).alloc _
    · skip
      repeat (with_reducible first | exact Below.refl _ _ | assumption | refine below_drewN ?_ _ | refine Below.drew ?_ | refine below_setRow' ?_ (by first | omega | (simp; done) | (simp; omega)) _ | refine Below.setCell ?_ (by first | omega | (simp; done) | (simp; omega)) _ | refine Below.alloc ?_ (by first | omega | (simp; done) | (simp; omega)) _ | refine Below.trans ?_ (Below.mono (by assumption) (by first | omega | (simp; done) | (simp; omega))))
  case round =>
    obtain ⟨j, hmj, hj, rfl, hrow, hbits, hres, hbel⟩ := hrel
    have hsz := hrow.lt
    have hrf := hrow.free
    by_cases h256 : j < 256
    · have co := hrow.cellAt h256
      have cb := hbits.cellAt (j := j - m) (by omega)
      obtain ⟨p, hp⟩ : ∃ p, p = j - m := ⟨_, rfl⟩
      have hjm : ((j : Nat) : Int) - ((m : Nat) : Int) = ((p : Nat) : Int) := by omega
      have hp256 : ((p : Nat) : Int) < 256 := by omega
      rw [← hp] at cb
      have hst : ∀ k, (if k = j then bitsOf a p else upT m a j k) = upT m a (j + 1) k := fun k => hp ▸ upT_succ m a j k hmj
      clear hp
      go_wp2
      go_roundw
      case rel =>
        refine ⟨j + 1, by omega, by omega, by go_num, hrow.store.to fun k _ => hst k, hbits.set (by omega), hres.set (by omega), ?_⟩
        repeat (with_reducible first | exact Below.refl _ _ | assumption | refine below_drewN ?_ _ | refine Below.drew ?_ | refine below_setRow' ?_ (by first | omega | (simp; done) | (simp; omega)) _ | refine Below.setCell ?_ (by first | omega | (simp; done) | (simp; omega)) _ | refine Below.alloc ?_ (by first | omega | (simp; done) | (simp; omega)) _ | refine Below.trans ?_ (Below.mono (by assumption) (by first | omega | (simp; done) | (simp; omega))))
      case measure => simp [intOf]; omega
    · obtain rfl : j = 256 := by omega
      have hrow' := hrow.to (upT_all m a)
      obtain ⟨z0, z1, z2, z3, zf⟩ := hres.cells
      have hs2 : w.heap.size + 1 + 1 < wr.heap.size := hres.lt
      clear hrow
      go_wp2
      refine wp_load_row 56 (.tmp 7) rfl _ rfl _ _ _ _ hrow' underA rfl (sizeA _) ?_
      go_wp2_with (go_at_call 74; with_reducible refine (c2 _).mono ?_; rintro e wb ⟨rfl, hb_wb⟩; have hc_wb := (bcell hb_wb).1; have hf_wb := (bcell hb_wb).2; have hz_wb : _ ≤ wb.heap.size := hb_wb.size; (try simp only [World.size_alloc, World.heap_drewN, World.size_setCell, heap_drew] at hc_wb hf_wb hz_wb))
      refine bodyPost_ret (by simp only [results, Try.results45]; go_simp) rfl ⟨rfl, ?_⟩
      repeat (with_reducible first | exact Below.refl _ _ | assumption | refine below_drewN ?_ _ | refine Below.drew ?_ | refine below_setRow' ?_ (by first | omega | (simp; done) | (simp; omega)) _ | refine Below.setCell ?_ (by first | omega | (simp; done) | (simp; omega)) _ | refine Below.alloc ?_ (by first | omega | (simp; done) | (simp; omega)) _ | refine Below.trans ?_ (Below.mono (by assumption) (by first | omega | (simp; done) | (simp; omega))))

end Go.Proofs.Ytmegpggpndjjcaa
