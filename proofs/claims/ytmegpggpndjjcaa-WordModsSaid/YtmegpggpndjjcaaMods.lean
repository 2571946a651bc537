/-
  Contracts of word.AddMod and word.MulMod. Conditions: none.
-/
import Derived.Test.YtmegpggpndjjcaaW3
import Derived.Test.YtmegpggpndjjcaaProd
namespace Go.Proofs.Ytmegpggpndjjcaa
open Go.RowKit
attribute [local go_sem] leftBy eqW guardW
set_option linter.unusedSimpArgs false
set_option linter.unusedVariables false


/-- A remainder of a sum, and of a product; 0 by 0. -/
def addmodW (a b m : Nat) : Nat := if m = 0 then 0 else (a + b) % m
def mulmodW (a b m : Nat) : Nat := if m = 0 then 0 else a * b % m
theorem addmodW_lt {a b m : Nat} (hm : m < Q256) : addmodW a b m < Q256 := by
  unfold addmodW
  split
  · exact Q256_pos
  · exact Nat.lt_trans (Nat.mod_lt _ (by omega)) hm
theorem mulmodW_lt {a b m : Nat} (hm : m < Q256) : mulmodW a b m < Q256 := by
  unfold mulmodW
  split
  · exact Q256_pos
  · exact Nat.lt_trans (Nat.mod_lt _ (by omega)) hm

/-- The five parts of a sum. -/
theorem lb_sum5 {a b : Nat} (ha : a < Q256) (hb : b < Q256) : lb (a + b) 4 = (a + b) / Q256 := by
  unfold lb
  rw [M64_four, Nat.mod_eq_of_lt]
  have : (a + b) / Q256 < 2 := (Nat.div_lt_iff_lt_mul Q256_pos).2 (by omega)
  have hM : 2 < M64 := by decide +kernel
  omega

theorem sum_lt5 {a b : Nat} (ha : a < Q256) (hb : b < Q256) : a + b < 2 ^ (64 * 5) := by
  have : Q256 + Q256 ≤ 2 ^ (64 * 5) := by decide +kernel
  omega
theorem prod_lt8 {a b : Nat} (ha : a < Q256) (hb : b < Q256) : a * b < 2 ^ (64 * 8) := by
  have : Q256 * Q256 = 2 ^ (64 * 8) := by decide +kernel
  rw [← this]
  exact Nat.mul_lt_mul'' ha hb

theorem cells5 {W : World} {k n : Nat} {t : TypeId} (h : W.heap[k]? = some (.cells #[.int .u64 (lb n 0 : Nat), .int .u64 (lb n 1 : Nat), .int .u64 (lb n 2 : Nat), .int .u64 (lb n 3 : Nat), .int .u64 (lb n 4 : Nat)] t (0, 0))) : ∀ j, j < 5 → W.cell? ⟨k, j, none⟩ = some (.int .u64 (lb n j : Nat)) := fun j hj => by
  rw [cell_of_row W k j _ _ _ h]
  have : j = 0 ∨ j = 1 ∨ j = 2 ∨ j = 3 ∨ j = 4 := by omega
  rcases this with rfl | rfl | rfl | rfl | rfl <;> rfl

attribute [local irreducible] lb addmodW mulmodW

set_option maxHeartbeats 4000000 in
theorem AddMod_any (a b m : Nat) (ha : a < Q256) (hb : b < Q256) (hm : m < Q256) (w : World) :
    Calls Try.prog 41 #[W4 a, W4 b, W4 m] w fun e w' => e = .returned (W4 (addmodW a b m)) ∧ Below w.heap.size w w' := by
  by_cases h0 : m = 0
  · subst h0
    rw [show addmodW a b 0 = 0 from by unfold addmodW; rw [if_pos rfl], W4_zero]
    go_enter Try.func41, Try.ntmps41
    go_wp2
    refine wp_flow (fun k => ([1, 1, 1] : List Nat).getD k 1) (Below (w.heap.size + 4)) _ (Below.drew (Below.refl _ _)) (by kernel_rfl) (by kernel_rfl) ?_
    (refine flow_quiet rfl rfl (fun K hK => ?_); apply Exists.intro; apply And.intro; (focus (intro w' hw'; have hc := (bcell hw').1; go_simp; (try go_bits); all_goals (first | exact rfl | exact ⟨rfl, hw'⟩))); go_simp; (try go_bits); refine hK _ ?_; clear hK K)
    first | (refine flow_quiet rfl rfl (fun K hK => ?_); apply Exists.intro; apply And.intro; (focus (intro w' hw'; have hc := (bcell hw').1; go_simp; (try go_bits); all_goals (go_at_call 56; with_reducible refine (zero_any _).mono ?_; rintro e w2 ⟨rfl, hb⟩; exact ⟨rfl, hw'.trans (hb.mono (below_le hw' (by simp)))⟩))); go_simp; (try go_bits); refine hK _ ?_; clear hK K) | (refine flow_quiet rfl rfl (fun K hK => ?_); apply Exists.intro; apply And.intro; (focus (intro w' hw'; have hc := (bcell hw').1; go_simp; (try go_bits); all_goals (go_at_call 56; refine (zero_any _).mono ?_; rintro e w2 ⟨rfl, hb⟩; exact ⟨rfl, hw'.trans (hb.mono (below_le hw' (by simp)))⟩))); go_simp; (try go_bits); refine hK _ ?_; clear hK K)
    (refine flow_quiet rfl rfl (fun K hK => ?_); apply Exists.intro; apply And.intro; (focus (intro w' hw'; have hc := (bcell hw').1; go_simp; (try go_bits); all_goals (first | exact rfl | exact ⟨rfl, hw'⟩))); go_simp; (try go_bits); refine hK _ ?_; clear hK K)
    refine flow_nil ?_
    intro w' hw'
    have hc_w' := (bcell hw').1; have hf_w' := (bcell hw').2; have hz_w' : _ ≤ w'.heap.size := hw'.size; (try simp only [World.size_alloc, World.heap_drewN, World.size_setCell, heap_drew] at hc_w' hf_w' hz_w'); have hz_w'_w_0 : w.heap.size < w'.heap.size := (by omega); have hz_w'_w_1 : w.heap.size + 1 < w'.heap.size := (by omega); have hz_w'_w_2 : w.heap.size + 1 + 1 < w'.heap.size := (by omega); have hz_w'_w_3 : w.heap.size + 1 + 1 + 1 < w'.heap.size := (by omega)
    go_wp2_with (go_at_call 56; refine (zero_any _).mono ?_; rintro e w1 ⟨rfl, hb_w1⟩; have hc_w1 := (bcell hb_w1).1; have hf_w1 := (bcell hb_w1).2; have hz_w1 : _ ≤ w1.heap.size := hb_w1.size; (try simp only [World.size_alloc, World.heap_drewN, World.size_setCell, heap_drew] at hc_w1 hf_w1 hz_w1))
    refine bodyPost_ret (by simp only [results, Try.results41]; go_simp) rfl ⟨rfl, ?_⟩
    repeat (with_reducible first | exact Below.refl _ _ | assumption | refine below_drewN ?_ _ | refine Below.drew ?_ | refine Below.setCell ?_ (by first | omega | (simp; done) | (simp; omega)) _ | refine Below.alloc ?_ (by first | omega | (simp; done) | (simp; omega)) _ | refine Below.trans ?_ (Below.mono (by assumption) (by first | omega | (simp; done) | (simp; omega))))
  · have hz := nz_lb hm h0
    have hd : addmodW a b m = (a + b) % m := by unfold addmodW; rw [if_neg h0]
    rw [hd]
    have l0 : lb ((a + b) % Q256) 0 = lb (a + b) 0 := lb_low (by decide)
    have l1 : lb ((a + b) % Q256) 1 = lb (a + b) 1 := lb_low (by decide)
    have l2 : lb ((a + b) % Q256) 2 = lb (a + b) 2 := lb_low (by decide)
    have l3 : lb ((a + b) % Q256) 3 = lb (a + b) 3 := lb_low (by decide)
    have c1 := fun W => sum_any a b ha hb W
    unfold W4 at c1
    rw [l0, l1, l2, l3, ← lb_sum5 ha hb] at c1
    have hx := sum_lt5 ha hb
    have hD := fun A W hA hc => divided_any 5 A m (a + b) (by omega) (by omega) (by omega) hm hx W hA hc
    clear l0 l1 l2 l3 hx hd
    generalize a + b = n at *
    generalize n / m % Q256 = q at *
    generalize n % m = r at *
    go_enter Try.func41, Try.ntmps41
    go_wp2
    refine wp_flow (fun k => ([1, 1, 1] : List Nat).getD k 1) (Below (w.heap.size + 4)) _ (Below.drew (Below.refl _ _)) (by kernel_rfl) (by kernel_rfl) ?_
    (refine flow_quiet rfl rfl (fun K hK => ?_); apply Exists.intro; apply And.intro; (focus (intro w' hw'; have hc := (bcell hw').1; go_simp; (try go_bits); all_goals (first | exact rfl | exact ⟨rfl, hw'⟩))); go_simp; (try go_bits); refine hK _ ?_; clear hK K)
    first | (refine flow_quiet rfl rfl (fun K hK => ?_); apply Exists.intro; apply And.intro; (focus (intro w' hw'; have hc := (bcell hw').1; go_simp; (try go_bits); all_goals (go_at_call 56; with_reducible refine (zero_any _).mono ?_; rintro e w2 ⟨rfl, hb⟩; exact ⟨rfl, hw'.trans (hb.mono (below_le hw' (by simp)))⟩))); go_simp; (try go_bits); refine hK _ ?_; clear hK K) | (refine flow_quiet rfl rfl (fun K hK => ?_); apply Exists.intro; apply And.intro; (focus (intro w' hw'; have hc := (bcell hw').1; go_simp; (try go_bits); all_goals (go_at_call 56; refine (zero_any _).mono ?_; rintro e w2 ⟨rfl, hb⟩; exact ⟨rfl, hw'.trans (hb.mono (below_le hw' (by simp)))⟩))); go_simp; (try go_bits); refine hK _ ?_; clear hK K)
    (refine flow_quiet rfl rfl (fun K hK => ?_); apply Exists.intro; apply And.intro; (focus (intro w' hw'; have hc := (bcell hw').1; go_simp; (try go_bits); all_goals (first | exact rfl | exact ⟨rfl, hw'⟩))); go_simp; (try go_bits); refine hK _ ?_; clear hK K)
    refine flow_nil ?_
    intro w' hw'
    have hc_w' := (bcell hw').1; have hf_w' := (bcell hw').2; have hz_w' : _ ≤ w'.heap.size := hw'.size; (try simp only [World.size_alloc, World.heap_drewN, World.size_setCell, heap_drew] at hc_w' hf_w' hz_w'); have hz_w'_w_0 : w.heap.size < w'.heap.size := (by omega); have hz_w'_w_1 : w.heap.size + 1 < w'.heap.size := (by omega); have hz_w'_w_2 : w.heap.size + 1 + 1 < w'.heap.size := (by omega); have hz_w'_w_3 : w.heap.size + 1 + 1 + 1 < w'.heap.size := (by omega)
    go_wp2_with (first | (go_at_call 55; with_reducible refine (c1 _).mono ?_; rintro e wa ⟨rfl, hb_wa⟩; have hc_wa := (bcell hb_wa).1; have hf_wa := (bcell hb_wa).2; have hz_wa : _ ≤ wa.heap.size := hb_wa.size; (try simp only [World.size_alloc, World.heap_drewN, World.size_setCell, heap_drew] at hc_wa hf_wa hz_wa); have hz_wa_w_0 : w.heap.size < wa.heap.size := (by omega); have hz_wa_w_1 : w.heap.size + 1 < wa.heap.size := (by omega); have hz_wa_w_2 : w.heap.size + 1 + 1 < wa.heap.size := (by omega); have hz_wa_w_3 : w.heap.size + 1 + 1 + 1 < wa.heap.size := (by omega)) | (go_at_call 57; refine (hD _ _ (by simp only [World.size_alloc]; omega) (cells5 (heap_new (by simp only [World.size_alloc])))).mono ?_; rintro e wd ⟨rfl, hb_wd⟩; have hc_wd := (bcell hb_wd).1; have hf_wd := (bcell hb_wd).2; have hz_wd : _ ≤ wd.heap.size := hb_wd.size; (try simp only [World.size_alloc, World.heap_drewN, World.size_setCell, heap_drew] at hc_wd hf_wd hz_wd); have hz_wd_w_0 : w.heap.size < wd.heap.size := (by omega); have hz_wd_w_1 : w.heap.size + 1 < wd.heap.size := (by omega); have hz_wd_w_2 : w.heap.size + 1 + 1 < wd.heap.size := (by omega); have hz_wd_w_3 : w.heap.size + 1 + 1 + 1 < wd.heap.size := (by omega)))
    refine bodyPost_ret (by simp only [results, Try.results41]; go_simp) rfl ⟨rfl, ?_⟩
    repeat (with_reducible first | exact Below.refl _ _ | assumption | refine below_drewN ?_ _ | refine Below.drew ?_ | refine Below.setCell ?_ (by first | omega | (simp; done) | (simp; omega)) _ | refine Below.alloc ?_ (by first | omega | (simp; done) | (simp; omega)) _ | refine Below.trans ?_ (Below.mono (by assumption) (by first | omega | (simp; done) | (simp; omega))))

set_option maxHeartbeats 4000000 in
theorem MulMod_any (a b m : Nat) (ha : a < Q256) (hb : b < Q256) (hm : m < Q256) (w : World) :
    Calls Try.prog 43 #[W4 a, W4 b, W4 m] w fun e w' => e = .returned (W4 (mulmodW a b m)) ∧ Below w.heap.size w w' := by
  by_cases h0 : m = 0
  · subst h0
    rw [show mulmodW a b 0 = 0 from by unfold mulmodW; rw [if_pos rfl], W4_zero]
    go_enter Try.func43, Try.ntmps43
    go_wp2
    refine wp_flow (fun k => ([1, 1, 1] : List Nat).getD k 1) (Below (w.heap.size + 4)) _ (Below.drew (Below.refl _ _)) (by kernel_rfl) (by kernel_rfl) ?_
    (refine flow_quiet rfl rfl (fun K hK => ?_); apply Exists.intro; apply And.intro; (focus (intro w' hw'; have hc := (bcell hw').1; go_simp; (try go_bits); all_goals (first | exact rfl | exact ⟨rfl, hw'⟩))); go_simp; (try go_bits); refine hK _ ?_; clear hK K)
    first | (refine flow_quiet rfl rfl (fun K hK => ?_); apply Exists.intro; apply And.intro; (focus (intro w' hw'; have hc := (bcell hw').1; go_simp; (try go_bits); all_goals (go_at_call 56; with_reducible refine (zero_any _).mono ?_; rintro e w2 ⟨rfl, hb⟩; exact ⟨rfl, hw'.trans (hb.mono (below_le hw' (by simp)))⟩))); go_simp; (try go_bits); refine hK _ ?_; clear hK K) | (refine flow_quiet rfl rfl (fun K hK => ?_); apply Exists.intro; apply And.intro; (focus (intro w' hw'; have hc := (bcell hw').1; go_simp; (try go_bits); all_goals (go_at_call 56; refine (zero_any _).mono ?_; rintro e w2 ⟨rfl, hb⟩; exact ⟨rfl, hw'.trans (hb.mono (below_le hw' (by simp)))⟩))); go_simp; (try go_bits); refine hK _ ?_; clear hK K)
    (refine flow_quiet rfl rfl (fun K hK => ?_); apply Exists.intro; apply And.intro; (focus (intro w' hw'; have hc := (bcell hw').1; go_simp; (try go_bits); all_goals (first | exact rfl | exact ⟨rfl, hw'⟩))); go_simp; (try go_bits); refine hK _ ?_; clear hK K)
    refine flow_nil ?_
    intro w' hw'
    have hc_w' := (bcell hw').1; have hf_w' := (bcell hw').2; have hz_w' : _ ≤ w'.heap.size := hw'.size; (try simp only [World.size_alloc, World.heap_drewN, World.size_setCell, heap_drew] at hc_w' hf_w' hz_w'); have hz_w'_w_0 : w.heap.size < w'.heap.size := (by omega); have hz_w'_w_1 : w.heap.size + 1 < w'.heap.size := (by omega); have hz_w'_w_2 : w.heap.size + 1 + 1 < w'.heap.size := (by omega); have hz_w'_w_3 : w.heap.size + 1 + 1 + 1 < w'.heap.size := (by omega)
    go_wp2_with (go_at_call 56; refine (zero_any _).mono ?_; rintro e w1 ⟨rfl, hb_w1⟩; have hc_w1 := (bcell hb_w1).1; have hf_w1 := (bcell hb_w1).2; have hz_w1 : _ ≤ w1.heap.size := hb_w1.size; (try simp only [World.size_alloc, World.heap_drewN, World.size_setCell, heap_drew] at hc_w1 hf_w1 hz_w1))
    refine bodyPost_ret (by simp only [results, Try.results43]; go_simp) rfl ⟨rfl, ?_⟩
    repeat (with_reducible first | exact Below.refl _ _ | assumption | refine below_drewN ?_ _ | refine Below.drew ?_ | refine Below.setCell ?_ (by first | omega | (simp; done) | (simp; omega)) _ | refine Below.alloc ?_ (by first | omega | (simp; done) | (simp; omega)) _ | refine Below.trans ?_ (Below.mono (by assumption) (by first | omega | (simp; done) | (simp; omega))))
  · have hz := nz_lb hm h0
    have hd : mulmodW a b m = a * b % m := by unfold mulmodW; rw [if_neg h0]
    rw [hd]
    have c1 := fun W => product_any a b ha hb W
    have hx := prod_lt8 ha hb
    have hD := fun A W hA hc => divided_any 8 A m (a * b) (by omega) (by omega) (by omega) hm hx W hA hc
    clear hx hd
    generalize a * b = n at *
    generalize n / m % Q256 = q at *
    generalize n % m = r at *
    go_enter Try.func43, Try.ntmps43
    go_wp2
    refine wp_flow (fun k => ([1, 1, 1] : List Nat).getD k 1) (Below (w.heap.size + 4)) _ (Below.drew (Below.refl _ _)) (by kernel_rfl) (by kernel_rfl) ?_
    (refine flow_quiet rfl rfl (fun K hK => ?_); apply Exists.intro; apply And.intro; (focus (intro w' hw'; have hc := (bcell hw').1; go_simp; (try go_bits); all_goals (first | exact rfl | exact ⟨rfl, hw'⟩))); go_simp; (try go_bits); refine hK _ ?_; clear hK K)
    first | (refine flow_quiet rfl rfl (fun K hK => ?_); apply Exists.intro; apply And.intro; (focus (intro w' hw'; have hc := (bcell hw').1; go_simp; (try go_bits); all_goals (go_at_call 56; with_reducible refine (zero_any _).mono ?_; rintro e w2 ⟨rfl, hb⟩; exact ⟨rfl, hw'.trans (hb.mono (below_le hw' (by simp)))⟩))); go_simp; (try go_bits); refine hK _ ?_; clear hK K) | (refine flow_quiet rfl rfl (fun K hK => ?_); apply Exists.intro; apply And.intro; (focus (intro w' hw'; have hc := (bcell hw').1; go_simp; (try go_bits); all_goals (go_at_call 56; refine (zero_any _).mono ?_; rintro e w2 ⟨rfl, hb⟩; exact ⟨rfl, hw'.trans (hb.mono (below_le hw' (by simp)))⟩))); go_simp; (try go_bits); refine hK _ ?_; clear hK K)
    (refine flow_quiet rfl rfl (fun K hK => ?_); apply Exists.intro; apply And.intro; (focus (intro w' hw'; have hc := (bcell hw').1; go_simp; (try go_bits); all_goals (first | exact rfl | exact ⟨rfl, hw'⟩))); go_simp; (try go_bits); refine hK _ ?_; clear hK K)
    refine flow_nil ?_
    intro w' hw'
    have hc_w' := (bcell hw').1; have hf_w' := (bcell hw').2; have hz_w' : _ ≤ w'.heap.size := hw'.size; (try simp only [World.size_alloc, World.heap_drewN, World.size_setCell, heap_drew] at hc_w' hf_w' hz_w'); have hz_w'_w_0 : w.heap.size < w'.heap.size := (by omega); have hz_w'_w_1 : w.heap.size + 1 < w'.heap.size := (by omega); have hz_w'_w_2 : w.heap.size + 1 + 1 < w'.heap.size := (by omega); have hz_w'_w_3 : w.heap.size + 1 + 1 + 1 < w'.heap.size := (by omega)
    go_wp2_with (go_at_call 67; refine (c1 _).mono ?_; rintro e wa ⟨rfl, hb_wa⟩; have hc_wa := (bcell hb_wa).1; have hf_wa := (bcell hb_wa).2; have hz_wa : _ ≤ wa.heap.size := hb_wa.size; (try simp only [World.size_alloc, World.heap_drewN, World.size_setCell, heap_drew] at hc_wa hf_wa hz_wa); have hz_wa_w_0 : w.heap.size < wa.heap.size := (by omega); have hz_wa_w_1 : w.heap.size + 1 < wa.heap.size := (by omega); have hz_wa_w_2 : w.heap.size + 1 + 1 < wa.heap.size := (by omega); have hz_wa_w_3 : w.heap.size + 1 + 1 + 1 < wa.heap.size := (by omega))
    have h8 : row8 (wa.alloc (.cells #[.int .u64 (lb n 0 : Nat), .int .u64 (lb n 1 : Nat), .int .u64 (lb n 2 : Nat), .int .u64 (lb n 3 : Nat), .int .u64 (lb n 4 : Nat), .int .u64 (lb n 5 : Nat), .int .u64 (lb n 6 : Nat), .int .u64 (lb n 7 : Nat)] 54 (0, 0))) wa.heap.size n := heap_new rfl
    have hD' : ∀ W, Below (wa.heap.size + 1) (wa.alloc (.cells #[.int .u64 (lb n 0 : Nat), .int .u64 (lb n 1 : Nat), .int .u64 (lb n 2 : Nat), .int .u64 (lb n 3 : Nat), .int .u64 (lb n 4 : Nat), .int .u64 (lb n 5 : Nat), .int .u64 (lb n 6 : Nat), .int .u64 (lb n 7 : Nat)] 54 (0, 0))) W → Calls Try.prog 57 #[.slice (some ⟨wa.heap.size, 0, none⟩) 8 8, W4 m] W fun e w' => e = .returned (.tuple #[W4 q, W4 r]) ∧ Below W.heap.size W w' := fun W hW =>
      hD _ W (by have := hW.size; simp only [World.size_alloc] at this; omega) fun j hj => (h8.below hW (by omega)).cellAt hj
    clear hD h8
    refine wp_flowN (fun k => ([1, 1, 1, 1, 1, 0, 3, 3, 2, 2] : List Nat).getD k 1) [8, 9] (fun _ => 24) (fun k => ([.slice (some ⟨wa.heap.size, 0, none⟩) 8 8, W4 m, .tuple #[W4 q, W4 r], .tuple #[W4 q, W4 r], W4 q, W4 r, undef, undef, undef, undef] : List Value).getD k undef) (fun _ => #[.int .u64 0, .int .u64 0, .int .u64 0, .int .u64 0]) (wa.heap.size + 1) ?_ (by kernel_rfl) (by kernel_rfl) ?_
    focus (intro d hd; simp only [List.mem_cons, List.not_mem_nil, or_false] at hd; rcases hd with rfl | rfl <;> rfl)
    (refine flowN_quiet rfl (by first | exact Nat.le_refl _ | (simp only [World.size_alloc]; omega) | omega) rfl rfl (fun K hK => ⟨?_, ?_⟩); (focus (intro w' hw'; have hc := (bcell hw').1; go_simp; (try go_bits); all_goals (first | exact ⟨rfl, Below.refl _ _⟩ | exact Below.refl _ _))); go_simp; (try go_bits); refine hK _ ?_; clear hK K)
    (refine flowN_quiet rfl (by first | exact Nat.le_refl _ | (simp only [World.size_alloc]; omega) | omega) rfl rfl (fun K hK => ⟨?_, ?_⟩); (focus (intro w' hw'; have hc := (bcell hw').1; go_simp; (try go_bits); all_goals (first | exact ⟨rfl, Below.refl _ _⟩ | exact Below.refl _ _))); go_simp; (try go_bits); refine hK _ ?_; clear hK K)
    first | (refine flowN_quiet rfl (by first | exact Nat.le_refl _ | (simp only [World.size_alloc]; omega) | omega) rfl rfl (fun K hK => ⟨?_, ?_⟩); (focus (intro w' hw'; have hc := (bcell hw').1; go_simp; all_goals (go_at_call 57; with_reducible refine (hD' _ hw').mono ?_; rintro e w2 ⟨rfl, hb⟩; exact ⟨rfl, hb⟩))); go_simp; (try go_bits); refine hK _ ?_; clear hK K) | (refine flowN_quiet rfl (by first | exact Nat.le_refl _ | (simp only [World.size_alloc]; omega) | omega) rfl rfl (fun K hK => ⟨?_, ?_⟩); (focus (intro w' hw'; have hc := (bcell hw').1; go_simp; all_goals (go_at_call 57; refine (hD' _ hw').mono ?_; rintro e w2 ⟨rfl, hb⟩; exact ⟨rfl, hb⟩))); go_simp; (try go_bits); refine hK _ ?_; clear hK K)
    (refine flowN_quiet rfl (by first | exact Nat.le_refl _ | (simp only [World.size_alloc]; omega) | omega) rfl rfl (fun K hK => ⟨?_, ?_⟩); (focus (intro w' hw'; have hc := (bcell hw').1; go_simp; (try go_bits); all_goals (first | exact ⟨rfl, Below.refl _ _⟩ | exact Below.refl _ _))); go_simp; (try go_bits); refine hK _ ?_; clear hK K)
    (refine flowN_quiet rfl (by first | exact Nat.le_refl _ | (simp only [World.size_alloc]; omega) | omega) rfl rfl (fun K hK => ⟨?_, ?_⟩); (focus (intro w' hw'; have hc := (bcell hw').1; go_simp; (try go_bits); all_goals (first | exact ⟨rfl, Below.refl _ _⟩ | exact Below.refl _ _))); go_simp; (try go_bits); refine hK _ ?_; clear hK K)
    (refine flowN_late rfl rfl (fun K hK => ⟨?_, ?_⟩); (focus (intro w' hw'; have hc := (bcell hw').1; go_simp; done)); go_simp; (try go_bits); refine hK _ ?_; clear hK K)
    (refine flowN_new rfl (by first | exact Nat.le_refl _ | (simp only [World.size_alloc]; omega) | omega) (fun a w' => ?_) (fun K hK bx hbx => ?_); (focus (go_simp; done)); go_simp; (try go_bits); refine hK _ ?_; clear hK K)
    (refine flowN_new rfl (by first | exact Nat.le_refl _ | (simp only [World.size_alloc]; omega) | omega) (fun a w' => ?_) (fun K hK bx hbx => ?_); (focus (go_simp; done)); go_simp; (try go_bits); refine hK _ ?_; clear hK K)
    (refine flowN_store _ _ rfl rfl (by simp) rfl rfl (by kernel_rfl) rfl (by first | rfl | simp [Value.oneCell']) ?_; (try simp only [Act.put]))
    (refine flowN_store _ _ rfl rfl (by simp) rfl rfl (by kernel_rfl) rfl (by first | rfl | simp [Value.oneCell']) ?_; (try simp only [Act.put]))
    refine flowN_nil ?_
    intro w' hw'
    obtain ⟨z5, r5⟩ := box_word (d := 9) (n := r) hw' (by simp) rfl (by simp [updS]) rfl
    obtain ⟨q0, q1, q2, q3, qf⟩ := r5.cells
    obtain ⟨hb_w2, _⟩ := hw'
    have hc_w' := (bcell hb_w2).1; have hf_w' := (bcell hb_w2).2; have hz_w' : _ ≤ w'.heap.size := hb_w2.size; (try simp only [World.size_alloc, World.heap_drewN, World.size_setCell, heap_drew] at hc_w' hf_w' hz_w'); have hz_w'_w_0 : w.heap.size < w'.heap.size := (by omega); have hz_w'_w_1 : w.heap.size + 1 < w'.heap.size := (by omega); have hz_w'_w_2 : w.heap.size + 1 + 1 < w'.heap.size := (by omega); have hz_w'_w_3 : w.heap.size + 1 + 1 + 1 < w'.heap.size := (by omega)
    clear hD' r5
    go_wp2
    refine bodyPost_ret (by simp only [results, Try.results43]; go_simp) rfl ⟨rfl, ?_⟩
    repeat (with_reducible first | exact Below.refl _ _ | assumption | refine below_drewN ?_ _ | refine Below.drew ?_ | refine Below.setCell ?_ (by first | omega | (simp; done) | (simp; omega)) _ | refine Below.alloc ?_ (by first | omega | (simp; done) | (simp; omega)) _ | refine Below.trans ?_ (Below.mono (by assumption) (by first | omega | (simp; done) | (simp; omega))))
end Go.Proofs.Ytmegpggpndjjcaa
