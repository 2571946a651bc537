/-
  The contract of word.SLess: less, the words read with their sign. Conditions: none.
-/
import Derived.Test.YtmegpggpndjjcaaW2
import Derived.Test.YtmegpggpndjjcaaFlow3
import Derived.Test.YtmegpggpndjjcaaBits
namespace Go.Proofs.Ytmegpggpndjjcaa
open Go.RowKit
attribute [local go_sem] leftBy
set_option linter.unusedSimpArgs false


/-- The number whose sign bit is turned. -/
def flip (a : Nat) : Nat := (a + Q256 / 2) % Q256
theorem flip_lt (a : Nat) : flip a < Q256 := Nat.mod_lt _ Q256_pos
/-- Less, the words read with their sign. -/
def sltB (a b : Nat) : Bool := ltB (flip a) (flip b)

theorem xor_low {h : Nat} (hh : h < 9223372036854775808) : h ^^^ 9223372036854775808 = 9223372036854775808 + h := by
  refine Nat.eq_of_testBit_eq fun i => ?_
  have e : (9223372036854775808 : Nat) = 2 ^ 63 := by decide
  rw [e, Nat.testBit_xor]
  rcases Nat.lt_trichotomy i 63 with hi | hi | hi
  · rw [Nat.testBit_two_pow_add_gt hi, Nat.testBit_two_pow_of_ne (by omega)]
    simp
  · subst hi
    rw [Nat.testBit_two_pow_add_eq, Nat.testBit_two_pow_self]
    simp
  · rw [Nat.testBit_two_pow_of_ne (by omega), Nat.testBit_lt_two_pow (x := h), Nat.testBit_lt_two_pow]
    · rfl
    · have : 2 ^ 64 ≤ 2 ^ i := Nat.pow_le_pow_right (by decide) hi
      omega
    · have : 2 ^ 64 ≤ 2 ^ i := Nat.pow_le_pow_right (by decide) hi
      omega

theorem xor_top {h : Nat} (hh : h < M64) : h ^^^ 9223372036854775808 = (h + 9223372036854775808) % M64 := by
  unfold M64 at *
  rcases Nat.lt_or_ge h 9223372036854775808 with h1 | h1
  · rw [xor_low h1]; omega
  · obtain ⟨g, rfl⟩ : ∃ g, h = 9223372036854775808 + g := ⟨h - 9223372036854775808, by omega⟩
    have hg : g < 9223372036854775808 := by omega
    rw [← xor_low hg, Nat.xor_assoc, Nat.xor_self, Nat.xor_zero, xor_low hg]
    omega

theorem lb_flip {a : Nat} (ha : a < Q256) : lb (flip a) 0 = lb a 0 ∧ lb (flip a) 1 = lb a 1 ∧ lb (flip a) 2 = lb a 2 ∧ lb (flip a) 3 = (lb a 3 + 9223372036854775808) % M64 := by
  have e : flip a = val4 (lb a 0) (lb a 1) (lb a 2) ((lb a 3 + 9223372036854775808) % M64) := by
    have h0 := lb_lt a 0
    have h1 := lb_lt a 1
    have h2 := lb_lt a 2
    have h3 := lb_lt a 3
    have hv := lb_eq ha
    generalize lb a 0 = x0 at *
    generalize lb a 1 = x1 at *
    generalize lb a 2 = x2 at *
    generalize lb a 3 = x3 at *
    unfold flip val4 Q256 M64 at *
    subst hv
    omega
  rw [e]
  exact lb_val4 (lb_lt _ _) (lb_lt _ _) (lb_lt _ _) (Nat.mod_lt _ M64_pos)

theorem W4_flip {a : Nat} (ha : a < Q256) : W4 (flip a) = .agg #[.int .u64 (lb a 0 : Nat), .int .u64 (lb a 1 : Nat), .int .u64 (lb a 2 : Nat), .int .u64 (lb (flip a) 3 : Nat)] := by
  obtain ⟨h0, h1, h2, _⟩ := lb_flip ha
  unfold W4
  rw [h0, h1, h2]

theorem xor_flip {a : Nat} (ha : a < Q256) : bits .xor .u64 ((lb a 3 : Nat) : Int) 9223372036854775808 = ((lb (flip a) 3 : Nat) : Int) := by
  obtain ⟨_, _, _, h3⟩ := lb_flip ha
  rw [show (9223372036854775808 : Int) = ((9223372036854775808 : Nat) : Int) from rfl, u64_xor_nat _ _ (lb_lt a 3) (by decide), xor_top (lb_lt a 3), h3]

attribute [local irreducible] lb flip ltB sltB

set_option maxHeartbeats 4000000 in
theorem SLess_any (a b : Nat) (ha : a < Q256) (hb : b < Q256) (w : World) :
    Calls Try.prog 16 #[W4 a, W4 b] w fun e w' => e = .returned (.bool (sltB a b)) ∧ Below w.heap.size w w' := by
  have fa := xor_flip ha
  have fb := xor_flip hb
  have hl : ∀ W, Calls Try.prog 15 #[.agg #[.int .u64 (lb a 0 : Nat), .int .u64 (lb a 1 : Nat), .int .u64 (lb a 2 : Nat), .int .u64 (lb (flip a) 3 : Nat)], .agg #[.int .u64 (lb b 0 : Nat), .int .u64 (lb b 1 : Nat), .int .u64 (lb b 2 : Nat), .int .u64 (lb (flip b) 3 : Nat)]] W fun e w' => e = .returned (.bool (sltB a b)) ∧ Below W.heap.size W w' := fun W => by
    have := Less_any (flip a) (flip b) (flip_lt a) (flip_lt b) W
    rw [W4_flip ha, W4_flip hb] at this
    unfold sltB
    exact this
  generalize sltB a b = s at *
  generalize lb (flip a) 3 = A at *
  generalize lb (flip b) 3 = B at *
  clear ha hb
  go_enter Try.func16, Try.ntmps16
  go_wp2
  first | refine wp_flowS (fun k => ([1, 1, 1, 0, 0, 0, 1, 2, 1, 4] : List Nat).getD k 1) Dr (fun W => W.cell? ⟨w.heap.size + 1, 3, none⟩ = some (.int .u64 (lb b 3 : Nat))) _ (Dr.next _ _) ?_ (by kernel_rfl) (by kernel_rfl) ?_ | refine wp_flowS (fun k => ([1, 1, 1, 0, 0, 0, 1, 2, 1, 4] : List Nat).getD k 1) Dr (fun W => W.cell? ⟨w.heap.size + 1, 3, none⟩ = some (.int .u64 (lb b 3 : Nat))) _ (Dr.one _) ?_ (by kernel_rfl) (by kernel_rfl) ?_
  focus (go_simp)
  (refine flowS_quiet rfl rfl (fun K hK => ?_); apply Exists.intro; apply And.intro; (focus (rintro w' ⟨nn, rfl⟩; go_simp; (try go_bits); exact ⟨rfl, Dr.of _ _⟩)); go_simp; (try go_bits); refine hK _ ?_; clear hK K)
  (refine flowS_quiet rfl rfl (fun K hK => ?_); apply Exists.intro; apply And.intro; (focus (rintro w' ⟨nn, rfl⟩; go_simp; (try go_bits); exact ⟨rfl, Dr.of _ _⟩)); go_simp; (try go_bits); refine hK _ ?_; clear hK K)
  (refine flowS_quiet rfl rfl (fun K hK => ?_); apply Exists.intro; apply And.intro; (focus (rintro w' ⟨nn, rfl⟩; go_simp; (try go_bits); exact ⟨rfl, Dr.of _ _⟩)); go_simp; (try go_bits); refine hK _ ?_; clear hK K)
  (refine flowS_late rfl rfl (fun K hK => ?_); apply Exists.intro; apply And.intro; (focus (rintro w0 w' hC ⟨nn, rfl⟩; skip; go_simp; (try go_bits); exact rfl)); go_simp; (try go_bits); refine hK _ ?_; clear hK K)
  (refine flowS_late rfl rfl (fun K hK => ?_); apply Exists.intro; apply And.intro; (focus (rintro w0 w' hC ⟨nn, rfl⟩; skip; go_simp; (try go_bits); exact rfl)); go_simp; (try go_bits); refine hK _ ?_; clear hK K)
  (refine flowS_late rfl rfl (fun K hK => ?_); apply Exists.intro; apply And.intro; (focus (rintro w0 w' hC ⟨nn, rfl⟩; skip; go_simp; (try go_bits); exact rfl)); go_simp; (try go_bits); refine hK _ ?_; clear hK K)
  (refine flowS_quiet rfl rfl (fun K hK => ?_); apply Exists.intro; apply And.intro; (focus (rintro w' ⟨nn, rfl⟩; go_simp; (try go_bits); exact ⟨rfl, Dr.of _ _⟩)); go_simp; (try go_bits); refine hK _ ?_; clear hK K)
  (refine flowS_eff rfl rfl (fun K hK => ?_); apply Exists.intro; apply Exists.intro; apply And.intro; (focus (apply And.intro; (focus (rintro w' ⟨nn, rfl⟩; go_simp; (try go_bits); refine ⟨rfl, ?_⟩; with_reducible first | exact Dr.store _ _ _ _ | exact Dr.store4 _ _ _ _ _ _ _ _ _ _)); (focus (intro hC; go_simp)))); go_simp; (try go_bits); refine hK _ _ ?_; clear hK K)
  (refine flowS_quiet rfl rfl (fun K hK => ?_); apply Exists.intro; apply And.intro; (focus (rintro w' ⟨nn, rfl⟩; go_simp; (try go_bits); exact ⟨rfl, Dr.of _ _⟩)); go_simp; (try go_bits); refine hK _ ?_; clear hK K)
  (refine flowS_close rfl rfl (fun K hK => ?_); apply Exists.intro; apply Exists.intro; apply And.intro; (focus (rintro w' ⟨nn, rfl⟩; go_simp; (try go_bits); refine ⟨rfl, ?_⟩; with_reducible first | exact Dr.store _ _ _ _ | exact Dr.store4 _ _ _ _ _ _ _ _ _ _)); go_simp; (try go_bits); refine hK _ _ ?_; clear hK K)
  refine flowS_nil ?_
  rintro w' ⟨nq, rfl⟩
  go_wp2_with (go_at_call 15; refine (hl _).mono ?_; rintro e w1 ⟨rfl, hb_w1⟩; have hc_w1 := (bcell hb_w1).1; have hf_w1 := (bcell hb_w1).2; have hz_w1 : _ ≤ w1.heap.size := hb_w1.size; (try simp only [World.size_alloc, World.heap_drewN, World.size_setCell, heap_drew] at hc_w1 hf_w1 hz_w1); have hz_w1_w_0 : w.heap.size < w1.heap.size := (by omega); have hz_w1_w_1 : w.heap.size + 1 < w1.heap.size := (by omega))
  go_ret
  refine ⟨rfl, ?_⟩
  repeat (first | exact Below.refl _ _ | refine below_drewN ?_ _ | refine Below.drew ?_ | refine Below.setCell ?_ (by first | omega | (simp; done) | (simp; omega)) _ | refine Below.alloc ?_ (by first | omega | (simp; done) | (simp; omega)) _ | refine Below.trans ?_ (Below.mono (by assumption) (by first | omega | (simp; done) | (simp; omega))))
end Go.Proofs.Ytmegpggpndjjcaa
