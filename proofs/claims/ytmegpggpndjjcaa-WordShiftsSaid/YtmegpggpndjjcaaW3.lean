/-
  Contracts of functions of package word, the third part: what each returns, in numbers below 2^256. Conditions: none.
-/
import Derived.Test.YtmegpggpndjjcaaDiv
import Derived.Test.YtmegpggpndjjcaaEq

namespace Go.Proofs.Ytmegpggpndjjcaa
open Go.RowKit
attribute [local go_sem] leftBy eqW guardW
set_option linter.unusedSimpArgs false


/-- A box of its own behind a region. -/
theorem box_word {N : Nat} {w0 : World} {FR : List Tmp} {T : Tmp → TypeId} {s : Tmp → Array Value} {a : Act} {w : World} {d : Tmp} {b n : Nat} {t : TypeId} (h : RF N w0 FR T s a w) (hd : d ∈ FR) (hb : a.tmps.getD d undef = .pointer (some ⟨b, 0, none⟩))
    (hs : s d = #[.int .u64 (lb n 0 : Nat), .int .u64 (lb n 1 : Nat), .int .u64 (lb n 2 : Nat), .int .u64 (lb n 3 : Nat)]) (hT : T d = t) : N ≤ b ∧ rowW t w b n := by
  obtain ⟨h1, h2⟩ := RF_at h hd hb
  rw [hs, hT] at h2
  exact ⟨h1, h2⟩

/-- A quotient, and 0 by 0. -/
def divW (a b : Nat) : Nat := if b = 0 then 0 else a / b
/-- A remainder, and 0 by 0. -/
def modW (a b : Nat) : Nat := if b = 0 then 0 else a % b

theorem divW_lt {a b : Nat} (ha : a < Q256) : divW a b < Q256 := by
  unfold divW
  split
  · exact Q256_pos
  · exact Nat.lt_of_le_of_lt (Nat.div_le_self _ _) ha

theorem modW_lt {a b : Nat} (ha : a < Q256) : modW a b < Q256 := by
  unfold modW
  split
  · exact Q256_pos
  · exact Nat.lt_of_le_of_lt (Nat.mod_le _ _) ha

theorem nz_lb {b : Nat} (hb : b < Q256) (h0 : b ≠ 0) : (((lb b 0 : Nat) : Int) == 0 && (((lb b 1 : Nat) : Int) == 0 && (((lb b 2 : Nat) : Int) == 0 && ((lb b 3 : Nat) : Int) == 0))) = false := by
  refine Bool.eq_false_iff.2 fun h => h0 ?_
  simp only [Bool.and_eq_true, beq_iff_eq] at h
  obtain ⟨h1, h2, h3, h4⟩ := h
  have e := lb_eq hb
  rw [show lb b 0 = 0 by omega, show lb b 1 = 0 by omega, show lb b 2 = 0 by omega, show lb b 3 = 0 by omega] at e
  simpa using e

attribute [local irreducible] lb tnd ltB negB divW modW

set_option maxHeartbeats 4000000 in
theorem Div_any (a b : Nat) (ha : a < Q256) (hb : b < Q256) (w : World) :
    Calls Try.prog 18 #[W4 a, W4 b] w fun e w' => e = .returned (W4 (divW a b)) ∧ Below w.heap.size w w' := by
  by_cases h0 : b = 0
  · subst h0
    rw [show divW a 0 = 0 from by unfold divW; rw [if_pos rfl], W4_zero]
    go_enter Try.func18, Try.ntmps18
    go_wp2
    refine wp_flow (fun k => ([1, 1, 1] : List Nat).getD k 1) (Below (w.heap.size + 3)) _ (Below.drew (Below.refl _ _)) (by kernel_rfl) (by kernel_rfl) ?_
    (refine flow_quiet rfl rfl (fun K hK => ?_); apply Exists.intro; apply And.intro; (focus (intro w' hw'; have hc := (bcell hw').1; go_simp; (try go_bits); all_goals (first | exact rfl | exact ⟨rfl, hw'⟩))); go_simp; (try go_bits); refine hK _ ?_; clear hK K)
    first | (refine flow_quiet rfl rfl (fun K hK => ?_); apply Exists.intro; apply And.intro; (focus (intro w' hw'; have hc := (bcell hw').1; go_simp; (try go_bits); all_goals (go_at_call 56; with_reducible refine (zero_any _).mono ?_; rintro e w2 ⟨rfl, hb⟩; exact ⟨rfl, hw'.trans (hb.mono (below_le hw' (by simp)))⟩))); go_simp; (try go_bits); refine hK _ ?_; clear hK K) | (refine flow_quiet rfl rfl (fun K hK => ?_); apply Exists.intro; apply And.intro; (focus (intro w' hw'; have hc := (bcell hw').1; go_simp; (try go_bits); all_goals (go_at_call 56; refine (zero_any _).mono ?_; rintro e w2 ⟨rfl, hb⟩; exact ⟨rfl, hw'.trans (hb.mono (below_le hw' (by simp)))⟩))); go_simp; (try go_bits); refine hK _ ?_; clear hK K)
    (refine flow_quiet rfl rfl (fun K hK => ?_); apply Exists.intro; apply And.intro; (focus (intro w' hw'; have hc := (bcell hw').1; go_simp; (try go_bits); all_goals (first | exact rfl | exact ⟨rfl, hw'⟩))); go_simp; (try go_bits); refine hK _ ?_; clear hK K)
    refine flow_nil ?_
    intro w' hw'
    have hc_w' := (bcell hw').1; have hf_w' := (bcell hw').2; have hz_w' : _ ≤ w'.heap.size := hw'.size; (try simp only [World.size_alloc, World.heap_drewN, World.size_setCell, heap_drew] at hc_w' hf_w' hz_w'); have hz_w'_w_0 : w.heap.size < w'.heap.size := (by omega); have hz_w'_w_1 : w.heap.size + 1 < w'.heap.size := (by omega); have hz_w'_w_2 : w.heap.size + 1 + 1 < w'.heap.size := (by omega)
    go_wp2_with (go_at_call 56; refine (zero_any _).mono ?_; rintro e w1 ⟨rfl, hb_w1⟩; have hc_w1 := (bcell hb_w1).1; have hf_w1 := (bcell hb_w1).2; have hz_w1 : _ ≤ w1.heap.size := hb_w1.size; (try simp only [World.size_alloc, World.heap_drewN, World.size_setCell, heap_drew] at hc_w1 hf_w1 hz_w1))
    refine bodyPost_ret (by simp only [results, Try.results18]; go_simp) rfl ⟨rfl, ?_⟩
    repeat (first | exact Below.refl _ _ | refine below_drewN ?_ _ | refine Below.drew ?_ | refine Below.setCell ?_ (by first | omega | (simp; done) | (simp; omega)) _ | refine Below.alloc ?_ (by first | omega | (simp; done) | (simp; omega)) _ | refine Below.trans ?_ (Below.mono (by assumption) (by first | omega | (simp; done) | (simp; omega))))
  · have hz := nz_lb hb h0
    have hd : divW a b = a / b := by unfold divW; rw [if_neg h0]
    rw [hd]
    have hm : a / b % Q256 = a / b := Nat.mod_eq_of_lt (Nat.lt_of_le_of_lt (Nat.div_le_self _ _) ha)
    go_enter Try.func18, Try.ntmps18
    go_wp2
    refine wp_flow (fun k => ([1, 1, 1] : List Nat).getD k 1) (Below (w.heap.size + 3)) _ (Below.drew (Below.refl _ _)) (by kernel_rfl) (by kernel_rfl) ?_
    (refine flow_quiet rfl rfl (fun K hK => ?_); apply Exists.intro; apply And.intro; (focus (intro w' hw'; have hc := (bcell hw').1; go_simp; (try go_bits); all_goals (first | exact rfl | exact ⟨rfl, hw'⟩))); go_simp; (try go_bits); refine hK _ ?_; clear hK K)
    first | (refine flow_quiet rfl rfl (fun K hK => ?_); apply Exists.intro; apply And.intro; (focus (intro w' hw'; have hc := (bcell hw').1; go_simp; (try go_bits); all_goals (go_at_call 56; with_reducible refine (zero_any _).mono ?_; rintro e w2 ⟨rfl, hb⟩; exact ⟨rfl, hw'.trans (hb.mono (below_le hw' (by simp)))⟩))); go_simp; (try go_bits); refine hK _ ?_; clear hK K) | (refine flow_quiet rfl rfl (fun K hK => ?_); apply Exists.intro; apply And.intro; (focus (intro w' hw'; have hc := (bcell hw').1; go_simp; (try go_bits); all_goals (go_at_call 56; refine (zero_any _).mono ?_; rintro e w2 ⟨rfl, hb⟩; exact ⟨rfl, hw'.trans (hb.mono (below_le hw' (by simp)))⟩))); go_simp; (try go_bits); refine hK _ ?_; clear hK K)
    (refine flow_quiet rfl rfl (fun K hK => ?_); apply Exists.intro; apply And.intro; (focus (intro w' hw'; have hc := (bcell hw').1; go_simp; (try go_bits); all_goals (first | exact rfl | exact ⟨rfl, hw'⟩))); go_simp; (try go_bits); refine hK _ ?_; clear hK K)
    refine flow_nil ?_
    intro w' hw'
    have hc_w' := (bcell hw').1; have hf_w' := (bcell hw').2; have hz_w' : _ ≤ w'.heap.size := hw'.size; (try simp only [World.size_alloc, World.heap_drewN, World.size_setCell, heap_drew] at hc_w' hf_w' hz_w'); have hz_w'_w_0 : w.heap.size < w'.heap.size := (by omega); have hz_w'_w_1 : w.heap.size + 1 < w'.heap.size := (by omega); have hz_w'_w_2 : w.heap.size + 1 + 1 < w'.heap.size := (by omega)
    go_wp2
    have hD : ∀ W, Below w'.heap.size w' W → Calls Try.prog 57 #[.slice (some ⟨w.heap.size, 0, none⟩) 4 4, W4 b] W fun e w2 => e = .returned (.tuple #[W4 (a / b), W4 (a % b)]) ∧ Below W.heap.size W w2 := fun W hW => by
      rw [← hm]
      refine divided_any 4 w.heap.size b a (by omega) (by omega) (by omega) hb (by rw [← Q256_pow]; exact ha) _ (by have := hW.size; omega) fun j hj => ?_
      rw [hW.cell (p := ⟨w.heap.size, j, none⟩) (by show w.heap.size < _; omega)]
      have : j = 0 ∨ j = 1 ∨ j = 2 ∨ j = 3 := by omega
      rcases this with rfl | rfl | rfl | rfl <;> (refine (hw'.cell (p := ⟨w.heap.size, _, none⟩) (by show w.heap.size < _; omega)).trans ?_; go_simp)
    have hw1 := hw'
    generalize hq : a / b = q at hD hm ⊢
    generalize hr : a % b = r at hD ⊢
    refine wp_flowN (fun k => ([1, 1, 1, 1, 1, 0, 3, 3, 2, 2] : List Nat).getD k 1) [5, 6] (fun _ => 24) (fun k => ([.slice (some ⟨w.heap.size, 0, none⟩) 4 4, W4 b, .tuple #[W4 q, W4 r], .tuple #[W4 q, W4 r], W4 q, W4 r, undef, undef, undef, undef] : List Value).getD k undef) (fun _ => #[.int .u64 0, .int .u64 0, .int .u64 0, .int .u64 0]) (w'.heap.size) ?_ (by kernel_rfl) (by kernel_rfl) ?_
    focus (intro d hd; simp only [List.mem_cons, List.not_mem_nil, or_false] at hd; rcases hd with rfl | rfl <;> rfl)
    (refine flowN_quiet rfl (by first | exact Nat.le_refl _ | (simp only [World.size_alloc]; omega) | omega) rfl rfl (fun K hK => ⟨?_, ?_⟩); (focus (intro w' hw'; have hc := (bcell hw').1; go_simp; (try go_bits); all_goals (first | exact ⟨rfl, Below.refl _ _⟩ | exact Below.refl _ _))); go_simp; (try go_bits); refine hK _ ?_; clear hK K)
    (refine flowN_quiet rfl (by first | exact Nat.le_refl _ | (simp only [World.size_alloc]; omega) | omega) rfl rfl (fun K hK => ⟨?_, ?_⟩); (focus (intro w' hw'; have hc := (bcell hw').1; go_simp; (try go_bits); all_goals (first | exact ⟨rfl, Below.refl _ _⟩ | exact Below.refl _ _))); go_simp; (try go_bits); refine hK _ ?_; clear hK K)
    first | (refine flowN_quiet rfl (by first | exact Nat.le_refl _ | (simp only [World.size_alloc]; omega) | omega) rfl rfl (fun K hK => ⟨?_, ?_⟩); (focus (intro w' hw'; have hc := (bcell hw').1; go_simp; all_goals (go_at_call 57; with_reducible refine (hD _ hw').mono ?_; rintro e w2 ⟨rfl, hb⟩; exact ⟨rfl, hb⟩))); go_simp; (try go_bits); refine hK _ ?_; clear hK K) | (refine flowN_quiet rfl (by first | exact Nat.le_refl _ | (simp only [World.size_alloc]; omega) | omega) rfl rfl (fun K hK => ⟨?_, ?_⟩); (focus (intro w' hw'; have hc := (bcell hw').1; go_simp; all_goals (go_at_call 57; refine (hD _ hw').mono ?_; rintro e w2 ⟨rfl, hb⟩; exact ⟨rfl, hb⟩))); go_simp; (try go_bits); refine hK _ ?_; clear hK K)
    (refine flowN_quiet rfl (by first | exact Nat.le_refl _ | (simp only [World.size_alloc]; omega) | omega) rfl rfl (fun K hK => ⟨?_, ?_⟩); (focus (intro w' hw'; have hc := (bcell hw').1; go_simp; (try go_bits); all_goals (first | exact ⟨rfl, Below.refl _ _⟩ | exact Below.refl _ _))); go_simp; (try go_bits); refine hK _ ?_; clear hK K)
    (refine flowN_quiet rfl (by first | exact Nat.le_refl _ | (simp only [World.size_alloc]; omega) | omega) rfl rfl (fun K hK => ⟨?_, ?_⟩); (focus (intro w' hw'; have hc := (bcell hw').1; go_simp; (try go_bits); all_goals (first | exact ⟨rfl, Below.refl _ _⟩ | exact Below.refl _ _))); go_simp; (try go_bits); refine hK _ ?_; clear hK K)
    (refine flowN_late rfl rfl (fun K hK => ⟨?_, ?_⟩); (focus (intro w' hw'; have hc := (bcell hw').1; go_simp; done)); go_simp; (try go_bits); refine hK _ ?_; clear hK K)
    (refine flowN_new rfl (by first | exact Nat.le_refl _ | (simp only [World.size_alloc]; omega) | omega) (fun a w' => ?_) (fun K hK bx hbx => ?_); (focus (go_simp; done)); go_simp; (try go_bits); refine hK _ ?_; clear hK K)
    (refine flowN_new rfl (by first | exact Nat.le_refl _ | (simp only [World.size_alloc]; omega) | omega) (fun a w' => ?_) (fun K hK bx hbx => ?_); (focus (go_simp; done)); go_simp; (try go_bits); refine hK _ ?_; clear hK K)
    (refine flowN_store _ _ rfl rfl (by simp) rfl rfl (by kernel_rfl) rfl (by first | rfl | simp [Value.oneCell']) ?_; (try simp only [Act.put]))
    (refine flowN_store _ _ rfl rfl (by simp) rfl rfl (by kernel_rfl) rfl (by first | rfl | simp [Value.oneCell']) ?_; (try simp only [Act.put]))
    refine flowN_nil ?_
    intro w' hw'
    obtain ⟨z5, r5⟩ := box_word (d := 5) (n := q) hw' (by simp) rfl (by simp [updS]) rfl
    obtain ⟨q0, q1, q2, q3, qf⟩ := r5.cells
    obtain ⟨hb_w2, _⟩ := hw'
    have hc_w' := (bcell hb_w2).1; have hf_w' := (bcell hb_w2).2; have hz_w' : _ ≤ w'.heap.size := hb_w2.size; (try simp only [World.size_alloc, World.heap_drewN, World.size_setCell, heap_drew] at hc_w' hf_w' hz_w')
    clear hD
    go_wp2
    refine bodyPost_ret (by simp only [results, Try.results18]; go_simp) rfl ⟨rfl, ?_⟩
    repeat (first | exact Below.refl _ _ | refine below_drewN ?_ _ | refine Below.drew ?_ | refine Below.setCell ?_ (by first | omega | (simp; done) | (simp; omega)) _ | refine Below.alloc ?_ (by first | omega | (simp; done) | (simp; omega)) _ | refine Below.trans ?_ (Below.mono (by assumption) (by first | omega | (simp; done) | (simp; omega))))
set_option maxHeartbeats 4000000 in
theorem Mod_any (a b : Nat) (ha : a < Q256) (hb : b < Q256) (w : World) :
    Calls Try.prog 20 #[W4 a, W4 b] w fun e w' => e = .returned (W4 (modW a b)) ∧ Below w.heap.size w w' := by
  by_cases h0 : b = 0
  · subst h0
    rw [show modW a 0 = 0 from by unfold modW; rw [if_pos rfl], W4_zero]
    go_enter Try.func20, Try.ntmps20
    go_wp2
    refine wp_flow (fun k => ([1, 1, 1] : List Nat).getD k 1) (Below (w.heap.size + 3)) _ (Below.drew (Below.refl _ _)) (by kernel_rfl) (by kernel_rfl) ?_
    (refine flow_quiet rfl rfl (fun K hK => ?_); apply Exists.intro; apply And.intro; (focus (intro w' hw'; have hc := (bcell hw').1; go_simp; (try go_bits); all_goals (first | exact rfl | exact ⟨rfl, hw'⟩))); go_simp; (try go_bits); refine hK _ ?_; clear hK K)
    first | (refine flow_quiet rfl rfl (fun K hK => ?_); apply Exists.intro; apply And.intro; (focus (intro w' hw'; have hc := (bcell hw').1; go_simp; (try go_bits); all_goals (go_at_call 56; with_reducible refine (zero_any _).mono ?_; rintro e w2 ⟨rfl, hb⟩; exact ⟨rfl, hw'.trans (hb.mono (below_le hw' (by simp)))⟩))); go_simp; (try go_bits); refine hK _ ?_; clear hK K) | (refine flow_quiet rfl rfl (fun K hK => ?_); apply Exists.intro; apply And.intro; (focus (intro w' hw'; have hc := (bcell hw').1; go_simp; (try go_bits); all_goals (go_at_call 56; refine (zero_any _).mono ?_; rintro e w2 ⟨rfl, hb⟩; exact ⟨rfl, hw'.trans (hb.mono (below_le hw' (by simp)))⟩))); go_simp; (try go_bits); refine hK _ ?_; clear hK K)
    (refine flow_quiet rfl rfl (fun K hK => ?_); apply Exists.intro; apply And.intro; (focus (intro w' hw'; have hc := (bcell hw').1; go_simp; (try go_bits); all_goals (first | exact rfl | exact ⟨rfl, hw'⟩))); go_simp; (try go_bits); refine hK _ ?_; clear hK K)
    refine flow_nil ?_
    intro w' hw'
    have hc_w' := (bcell hw').1; have hf_w' := (bcell hw').2; have hz_w' : _ ≤ w'.heap.size := hw'.size; (try simp only [World.size_alloc, World.heap_drewN, World.size_setCell, heap_drew] at hc_w' hf_w' hz_w'); have hz_w'_w_0 : w.heap.size < w'.heap.size := (by omega); have hz_w'_w_1 : w.heap.size + 1 < w'.heap.size := (by omega); have hz_w'_w_2 : w.heap.size + 1 + 1 < w'.heap.size := (by omega)
    go_wp2_with (go_at_call 56; refine (zero_any _).mono ?_; rintro e w1 ⟨rfl, hb_w1⟩; have hc_w1 := (bcell hb_w1).1; have hf_w1 := (bcell hb_w1).2; have hz_w1 : _ ≤ w1.heap.size := hb_w1.size; (try simp only [World.size_alloc, World.heap_drewN, World.size_setCell, heap_drew] at hc_w1 hf_w1 hz_w1))
    refine bodyPost_ret (by simp only [results, Try.results20]; go_simp) rfl ⟨rfl, ?_⟩
    repeat (first | exact Below.refl _ _ | refine below_drewN ?_ _ | refine Below.drew ?_ | refine Below.setCell ?_ (by first | omega | (simp; done) | (simp; omega)) _ | refine Below.alloc ?_ (by first | omega | (simp; done) | (simp; omega)) _ | refine Below.trans ?_ (Below.mono (by assumption) (by first | omega | (simp; done) | (simp; omega))))
  · have hz := nz_lb hb h0
    have hd : modW a b = a % b := by unfold modW; rw [if_neg h0]
    rw [hd]
    have hm : a / b % Q256 = a / b := Nat.mod_eq_of_lt (Nat.lt_of_le_of_lt (Nat.div_le_self _ _) ha)
    go_enter Try.func20, Try.ntmps20
    go_wp2
    refine wp_flow (fun k => ([1, 1, 1] : List Nat).getD k 1) (Below (w.heap.size + 3)) _ (Below.drew (Below.refl _ _)) (by kernel_rfl) (by kernel_rfl) ?_
    (refine flow_quiet rfl rfl (fun K hK => ?_); apply Exists.intro; apply And.intro; (focus (intro w' hw'; have hc := (bcell hw').1; go_simp; (try go_bits); all_goals (first | exact rfl | exact ⟨rfl, hw'⟩))); go_simp; (try go_bits); refine hK _ ?_; clear hK K)
    first | (refine flow_quiet rfl rfl (fun K hK => ?_); apply Exists.intro; apply And.intro; (focus (intro w' hw'; have hc := (bcell hw').1; go_simp; (try go_bits); all_goals (go_at_call 56; with_reducible refine (zero_any _).mono ?_; rintro e w2 ⟨rfl, hb⟩; exact ⟨rfl, hw'.trans (hb.mono (below_le hw' (by simp)))⟩))); go_simp; (try go_bits); refine hK _ ?_; clear hK K) | (refine flow_quiet rfl rfl (fun K hK => ?_); apply Exists.intro; apply And.intro; (focus (intro w' hw'; have hc := (bcell hw').1; go_simp; (try go_bits); all_goals (go_at_call 56; refine (zero_any _).mono ?_; rintro e w2 ⟨rfl, hb⟩; exact ⟨rfl, hw'.trans (hb.mono (below_le hw' (by simp)))⟩))); go_simp; (try go_bits); refine hK _ ?_; clear hK K)
    (refine flow_quiet rfl rfl (fun K hK => ?_); apply Exists.intro; apply And.intro; (focus (intro w' hw'; have hc := (bcell hw').1; go_simp; (try go_bits); all_goals (first | exact rfl | exact ⟨rfl, hw'⟩))); go_simp; (try go_bits); refine hK _ ?_; clear hK K)
    refine flow_nil ?_
    intro w' hw'
    have hc_w' := (bcell hw').1; have hf_w' := (bcell hw').2; have hz_w' : _ ≤ w'.heap.size := hw'.size; (try simp only [World.size_alloc, World.heap_drewN, World.size_setCell, heap_drew] at hc_w' hf_w' hz_w'); have hz_w'_w_0 : w.heap.size < w'.heap.size := (by omega); have hz_w'_w_1 : w.heap.size + 1 < w'.heap.size := (by omega); have hz_w'_w_2 : w.heap.size + 1 + 1 < w'.heap.size := (by omega)
    go_wp2
    have hD : ∀ W, Below w'.heap.size w' W → Calls Try.prog 57 #[.slice (some ⟨w.heap.size, 0, none⟩) 4 4, W4 b] W fun e w2 => e = .returned (.tuple #[W4 (a / b), W4 (a % b)]) ∧ Below W.heap.size W w2 := fun W hW => by
      rw [← hm]
      refine divided_any 4 w.heap.size b a (by omega) (by omega) (by omega) hb (by rw [← Q256_pow]; exact ha) _ (by have := hW.size; omega) fun j hj => ?_
      rw [hW.cell (p := ⟨w.heap.size, j, none⟩) (by show w.heap.size < _; omega)]
      have : j = 0 ∨ j = 1 ∨ j = 2 ∨ j = 3 := by omega
      rcases this with rfl | rfl | rfl | rfl <;> (refine (hw'.cell (p := ⟨w.heap.size, _, none⟩) (by show w.heap.size < _; omega)).trans ?_; go_simp)
    have hw1 := hw'
    generalize hq : a / b = q at hD hm ⊢
    generalize hr : a % b = r at hD ⊢
    refine wp_flowN (fun k => ([1, 1, 1, 1, 1, 0, 3, 3, 2, 2] : List Nat).getD k 1) [5, 6] (fun _ => 24) (fun k => ([.slice (some ⟨w.heap.size, 0, none⟩) 4 4, W4 b, .tuple #[W4 q, W4 r], .tuple #[W4 q, W4 r], W4 q, W4 r, undef, undef, undef, undef] : List Value).getD k undef) (fun _ => #[.int .u64 0, .int .u64 0, .int .u64 0, .int .u64 0]) (w'.heap.size) ?_ (by kernel_rfl) (by kernel_rfl) ?_
    focus (intro d hd; simp only [List.mem_cons, List.not_mem_nil, or_false] at hd; rcases hd with rfl | rfl <;> rfl)
    (refine flowN_quiet rfl (by first | exact Nat.le_refl _ | (simp only [World.size_alloc]; omega) | omega) rfl rfl (fun K hK => ⟨?_, ?_⟩); (focus (intro w' hw'; have hc := (bcell hw').1; go_simp; (try go_bits); all_goals (first | exact ⟨rfl, Below.refl _ _⟩ | exact Below.refl _ _))); go_simp; (try go_bits); refine hK _ ?_; clear hK K)
    (refine flowN_quiet rfl (by first | exact Nat.le_refl _ | (simp only [World.size_alloc]; omega) | omega) rfl rfl (fun K hK => ⟨?_, ?_⟩); (focus (intro w' hw'; have hc := (bcell hw').1; go_simp; (try go_bits); all_goals (first | exact ⟨rfl, Below.refl _ _⟩ | exact Below.refl _ _))); go_simp; (try go_bits); refine hK _ ?_; clear hK K)
    first | (refine flowN_quiet rfl (by first | exact Nat.le_refl _ | (simp only [World.size_alloc]; omega) | omega) rfl rfl (fun K hK => ⟨?_, ?_⟩); (focus (intro w' hw'; have hc := (bcell hw').1; go_simp; all_goals (go_at_call 57; with_reducible refine (hD _ hw').mono ?_; rintro e w2 ⟨rfl, hb⟩; exact ⟨rfl, hb⟩))); go_simp; (try go_bits); refine hK _ ?_; clear hK K) | (refine flowN_quiet rfl (by first | exact Nat.le_refl _ | (simp only [World.size_alloc]; omega) | omega) rfl rfl (fun K hK => ⟨?_, ?_⟩); (focus (intro w' hw'; have hc := (bcell hw').1; go_simp; all_goals (go_at_call 57; refine (hD _ hw').mono ?_; rintro e w2 ⟨rfl, hb⟩; exact ⟨rfl, hb⟩))); go_simp; (try go_bits); refine hK _ ?_; clear hK K)
    (refine flowN_quiet rfl (by first | exact Nat.le_refl _ | (simp only [World.size_alloc]; omega) | omega) rfl rfl (fun K hK => ⟨?_, ?_⟩); (focus (intro w' hw'; have hc := (bcell hw').1; go_simp; (try go_bits); all_goals (first | exact ⟨rfl, Below.refl _ _⟩ | exact Below.refl _ _))); go_simp; (try go_bits); refine hK _ ?_; clear hK K)
    (refine flowN_quiet rfl (by first | exact Nat.le_refl _ | (simp only [World.size_alloc]; omega) | omega) rfl rfl (fun K hK => ⟨?_, ?_⟩); (focus (intro w' hw'; have hc := (bcell hw').1; go_simp; (try go_bits); all_goals (first | exact ⟨rfl, Below.refl _ _⟩ | exact Below.refl _ _))); go_simp; (try go_bits); refine hK _ ?_; clear hK K)
    (refine flowN_late rfl rfl (fun K hK => ⟨?_, ?_⟩); (focus (intro w' hw'; have hc := (bcell hw').1; go_simp; done)); go_simp; (try go_bits); refine hK _ ?_; clear hK K)
    (refine flowN_new rfl (by first | exact Nat.le_refl _ | (simp only [World.size_alloc]; omega) | omega) (fun a w' => ?_) (fun K hK bx hbx => ?_); (focus (go_simp; done)); go_simp; (try go_bits); refine hK _ ?_; clear hK K)
    (refine flowN_new rfl (by first | exact Nat.le_refl _ | (simp only [World.size_alloc]; omega) | omega) (fun a w' => ?_) (fun K hK bx hbx => ?_); (focus (go_simp; done)); go_simp; (try go_bits); refine hK _ ?_; clear hK K)
    (refine flowN_store _ _ rfl rfl (by simp) rfl rfl (by kernel_rfl) rfl (by first | rfl | simp [Value.oneCell']) ?_; (try simp only [Act.put]))
    (refine flowN_store _ _ rfl rfl (by simp) rfl rfl (by kernel_rfl) rfl (by first | rfl | simp [Value.oneCell']) ?_; (try simp only [Act.put]))
    refine flowN_nil ?_
    intro w' hw'
    obtain ⟨z5, r5⟩ := box_word (d := 6) (n := r) hw' (by simp) rfl (by simp [updS]) rfl
    obtain ⟨q0, q1, q2, q3, qf⟩ := r5.cells
    obtain ⟨hb_w2, _⟩ := hw'
    have hc_w' := (bcell hb_w2).1; have hf_w' := (bcell hb_w2).2; have hz_w' : _ ≤ w'.heap.size := hb_w2.size; (try simp only [World.size_alloc, World.heap_drewN, World.size_setCell, heap_drew] at hc_w' hf_w' hz_w')
    clear hD
    go_wp2
    refine bodyPost_ret (by simp only [results, Try.results20]; go_simp) rfl ⟨rfl, ?_⟩
    repeat (first | exact Below.refl _ _ | refine below_drewN ?_ _ | refine Below.drew ?_ | refine Below.setCell ?_ (by first | omega | (simp; done) | (simp; omega)) _ | refine Below.alloc ?_ (by first | omega | (simp; done) | (simp; omega)) _ | refine Below.trans ?_ (Below.mono (by assumption) (by first | omega | (simp; done) | (simp; omega))))

/-- Signed quotient. -/
def sdivW (a b : Nat) : Nat := tnd (divW (tnd a (negB a)) (tnd b (negB b))) (negB a != negB b)

theorem sdivW_lt {a b : Nat} (ha : a < Q256) : sdivW a b < Q256 := tnd_lt (divW_lt (tnd_lt ha _)) _

set_option maxHeartbeats 4000000 in
theorem SDiv_any (a b : Nat) (ha : a < Q256) (hb : b < Q256) (w : World) :
    Calls Try.prog 22 #[W4 a, W4 b] w fun e w' => e = .returned (W4 (sdivW a b)) ∧ Below w.heap.size w w' := by
  have ta := tnd_lt ha (negB a)
  have tb := tnd_lt hb (negB b)
  have td := divW_lt (b := tnd b (negB b)) ta
  unfold sdivW
  generalize hna : negB a = na at *
  generalize hnb : negB b = nb at *
  generalize hA : tnd a na = A at *
  generalize hB : tnd b nb = B at *
  generalize hD : divW A B = D at *
  have c1 : ∀ W, Calls Try.prog 61 #[W4 a] W fun e w' => e = .returned (.bool na) ∧ Below W.heap.size W w' := fun W => hna ▸ isNeg_any a ha W
  have c2 : ∀ W, Calls Try.prog 61 #[W4 b] W fun e w' => e = .returned (.bool nb) ∧ Below W.heap.size W w' := fun W => hnb ▸ isNeg_any b hb W
  have c3 : ∀ W, Calls Try.prog 60 #[W4 a, .bool na] W fun e w' => e = .returned (W4 A) ∧ Below W.heap.size W w' := fun W => hA ▸ turned_any a na ha W
  have c4 : ∀ W, Calls Try.prog 60 #[W4 b, .bool nb] W fun e w' => e = .returned (W4 B) ∧ Below W.heap.size W w' := fun W => hB ▸ turned_any b nb hb W
  have c5 : ∀ W, Calls Try.prog 18 #[W4 A, W4 B] W fun e w' => e = .returned (W4 D) ∧ Below W.heap.size W w' := fun W => hD ▸ Div_any A B ta tb W
  have c6 : ∀ W, Calls Try.prog 60 #[W4 D, .bool (!(na == nb))] W fun e w' => e = .returned (W4 (tnd D (na != nb))) ∧ Below W.heap.size W w' := fun W => turned_any D _ td W
  generalize hR : tnd D (na != nb) = R at *
  clear hna hnb hA hB hD hR
  go_enter Try.func22, Try.ntmps22
  go_wp2
  refine wp_flow (fun k => ([1, 1, 1, 1, 1, 1, 1, 1, 1, 1, 1, 1, 1, 1, 1, 2] : List Nat).getD k 1) (Below (w.heap.size + 3)) _ (Below.drew (Below.refl _ _)) (by kernel_rfl) (by kernel_rfl) ?_
  (refine flow_quiet rfl rfl (fun K hK => ?_); apply Exists.intro; apply And.intro; (focus (intro w' hw'; have hc := (bcell hw').1; go_simp; (try go_bits); all_goals (first | exact rfl | exact ⟨rfl, hw'⟩))); go_simp; (try go_bits); refine hK _ ?_; clear hK K)
  (refine flow_quiet rfl rfl (fun K hK => ?_); apply Exists.intro; apply And.intro; (focus (intro w' hw'; have hc := (bcell hw').1; go_simp; (try go_bits); all_goals (first | exact rfl | exact ⟨rfl, hw'⟩))); go_simp; (try go_bits); refine hK _ ?_; clear hK K)
  first | (refine flow_quiet rfl rfl (fun K hK => ?_); apply Exists.intro; apply And.intro; (focus (intro w' hw'; have hc := (bcell hw').1; go_simp; (try go_bits); all_goals (go_at_call 61; with_reducible refine (c1 _).mono ?_; rintro e w2 ⟨rfl, hb⟩; exact ⟨rfl, hw'.trans (hb.mono (below_le hw' (by simp)))⟩))); go_simp; (try go_bits); refine hK _ ?_; clear hK K) | (refine flow_quiet rfl rfl (fun K hK => ?_); apply Exists.intro; apply And.intro; (focus (intro w' hw'; have hc := (bcell hw').1; go_simp; (try go_bits); all_goals (go_at_call 61; with_reducible refine (c2 _).mono ?_; rintro e w2 ⟨rfl, hb⟩; exact ⟨rfl, hw'.trans (hb.mono (below_le hw' (by simp)))⟩))); go_simp; (try go_bits); refine hK _ ?_; clear hK K) | (refine flow_quiet rfl rfl (fun K hK => ?_); apply Exists.intro; apply And.intro; (focus (intro w' hw'; have hc := (bcell hw').1; go_simp; (try go_bits); all_goals (go_at_call 61; refine (c1 _).mono ?_; rintro e w2 ⟨rfl, hb⟩; exact ⟨rfl, hw'.trans (hb.mono (below_le hw' (by simp)))⟩))); go_simp; (try go_bits); refine hK _ ?_; clear hK K) | (refine flow_quiet rfl rfl (fun K hK => ?_); apply Exists.intro; apply And.intro; (focus (intro w' hw'; have hc := (bcell hw').1; go_simp; (try go_bits); all_goals (go_at_call 61; refine (c2 _).mono ?_; rintro e w2 ⟨rfl, hb⟩; exact ⟨rfl, hw'.trans (hb.mono (below_le hw' (by simp)))⟩))); go_simp; (try go_bits); refine hK _ ?_; clear hK K)
  first | (refine flow_quiet rfl rfl (fun K hK => ?_); apply Exists.intro; apply And.intro; (focus (intro w' hw'; have hc := (bcell hw').1; go_simp; (try go_bits); all_goals (go_at_call 60; with_reducible refine (c3 _).mono ?_; rintro e w2 ⟨rfl, hb⟩; exact ⟨rfl, hw'.trans (hb.mono (below_le hw' (by simp)))⟩))); go_simp; (try go_bits); refine hK _ ?_; clear hK K) | (refine flow_quiet rfl rfl (fun K hK => ?_); apply Exists.intro; apply And.intro; (focus (intro w' hw'; have hc := (bcell hw').1; go_simp; (try go_bits); all_goals (go_at_call 60; with_reducible refine (c4 _).mono ?_; rintro e w2 ⟨rfl, hb⟩; exact ⟨rfl, hw'.trans (hb.mono (below_le hw' (by simp)))⟩))); go_simp; (try go_bits); refine hK _ ?_; clear hK K) | (refine flow_quiet rfl rfl (fun K hK => ?_); apply Exists.intro; apply And.intro; (focus (intro w' hw'; have hc := (bcell hw').1; go_simp; (try go_bits); all_goals (go_at_call 60; with_reducible refine (c6 _).mono ?_; rintro e w2 ⟨rfl, hb⟩; exact ⟨rfl, hw'.trans (hb.mono (below_le hw' (by simp)))⟩))); go_simp; (try go_bits); refine hK _ ?_; clear hK K) | (refine flow_quiet rfl rfl (fun K hK => ?_); apply Exists.intro; apply And.intro; (focus (intro w' hw'; have hc := (bcell hw').1; go_simp; (try go_bits); all_goals (go_at_call 60; refine (c3 _).mono ?_; rintro e w2 ⟨rfl, hb⟩; exact ⟨rfl, hw'.trans (hb.mono (below_le hw' (by simp)))⟩))); go_simp; (try go_bits); refine hK _ ?_; clear hK K) | (refine flow_quiet rfl rfl (fun K hK => ?_); apply Exists.intro; apply And.intro; (focus (intro w' hw'; have hc := (bcell hw').1; go_simp; (try go_bits); all_goals (go_at_call 60; refine (c4 _).mono ?_; rintro e w2 ⟨rfl, hb⟩; exact ⟨rfl, hw'.trans (hb.mono (below_le hw' (by simp)))⟩))); go_simp; (try go_bits); refine hK _ ?_; clear hK K) | (refine flow_quiet rfl rfl (fun K hK => ?_); apply Exists.intro; apply And.intro; (focus (intro w' hw'; have hc := (bcell hw').1; go_simp; (try go_bits); all_goals (go_at_call 60; refine (c6 _).mono ?_; rintro e w2 ⟨rfl, hb⟩; exact ⟨rfl, hw'.trans (hb.mono (below_le hw' (by simp)))⟩))); go_simp; (try go_bits); refine hK _ ?_; clear hK K)
  (refine flow_quiet rfl rfl (fun K hK => ?_); apply Exists.intro; apply And.intro; (focus (intro w' hw'; have hc := (bcell hw').1; go_simp; (try go_bits); all_goals (first | exact rfl | exact ⟨rfl, hw'⟩))); go_simp; (try go_bits); refine hK _ ?_; clear hK K)
  (refine flow_quiet rfl rfl (fun K hK => ?_); apply Exists.intro; apply And.intro; (focus (intro w' hw'; have hc := (bcell hw').1; go_simp; (try go_bits); all_goals (first | exact rfl | exact ⟨rfl, hw'⟩))); go_simp; (try go_bits); refine hK _ ?_; clear hK K)
  first | (refine flow_quiet rfl rfl (fun K hK => ?_); apply Exists.intro; apply And.intro; (focus (intro w' hw'; have hc := (bcell hw').1; go_simp; (try go_bits); all_goals (go_at_call 61; with_reducible refine (c1 _).mono ?_; rintro e w2 ⟨rfl, hb⟩; exact ⟨rfl, hw'.trans (hb.mono (below_le hw' (by simp)))⟩))); go_simp; (try go_bits); refine hK _ ?_; clear hK K) | (refine flow_quiet rfl rfl (fun K hK => ?_); apply Exists.intro; apply And.intro; (focus (intro w' hw'; have hc := (bcell hw').1; go_simp; (try go_bits); all_goals (go_at_call 61; with_reducible refine (c2 _).mono ?_; rintro e w2 ⟨rfl, hb⟩; exact ⟨rfl, hw'.trans (hb.mono (below_le hw' (by simp)))⟩))); go_simp; (try go_bits); refine hK _ ?_; clear hK K) | (refine flow_quiet rfl rfl (fun K hK => ?_); apply Exists.intro; apply And.intro; (focus (intro w' hw'; have hc := (bcell hw').1; go_simp; (try go_bits); all_goals (go_at_call 61; refine (c1 _).mono ?_; rintro e w2 ⟨rfl, hb⟩; exact ⟨rfl, hw'.trans (hb.mono (below_le hw' (by simp)))⟩))); go_simp; (try go_bits); refine hK _ ?_; clear hK K) | (refine flow_quiet rfl rfl (fun K hK => ?_); apply Exists.intro; apply And.intro; (focus (intro w' hw'; have hc := (bcell hw').1; go_simp; (try go_bits); all_goals (go_at_call 61; refine (c2 _).mono ?_; rintro e w2 ⟨rfl, hb⟩; exact ⟨rfl, hw'.trans (hb.mono (below_le hw' (by simp)))⟩))); go_simp; (try go_bits); refine hK _ ?_; clear hK K)
  first | (refine flow_quiet rfl rfl (fun K hK => ?_); apply Exists.intro; apply And.intro; (focus (intro w' hw'; have hc := (bcell hw').1; go_simp; (try go_bits); all_goals (go_at_call 60; with_reducible refine (c3 _).mono ?_; rintro e w2 ⟨rfl, hb⟩; exact ⟨rfl, hw'.trans (hb.mono (below_le hw' (by simp)))⟩))); go_simp; (try go_bits); refine hK _ ?_; clear hK K) | (refine flow_quiet rfl rfl (fun K hK => ?_); apply Exists.intro; apply And.intro; (focus (intro w' hw'; have hc := (bcell hw').1; go_simp; (try go_bits); all_goals (go_at_call 60; with_reducible refine (c4 _).mono ?_; rintro e w2 ⟨rfl, hb⟩; exact ⟨rfl, hw'.trans (hb.mono (below_le hw' (by simp)))⟩))); go_simp; (try go_bits); refine hK _ ?_; clear hK K) | (refine flow_quiet rfl rfl (fun K hK => ?_); apply Exists.intro; apply And.intro; (focus (intro w' hw'; have hc := (bcell hw').1; go_simp; (try go_bits); all_goals (go_at_call 60; with_reducible refine (c6 _).mono ?_; rintro e w2 ⟨rfl, hb⟩; exact ⟨rfl, hw'.trans (hb.mono (below_le hw' (by simp)))⟩))); go_simp; (try go_bits); refine hK _ ?_; clear hK K) | (refine flow_quiet rfl rfl (fun K hK => ?_); apply Exists.intro; apply And.intro; (focus (intro w' hw'; have hc := (bcell hw').1; go_simp; (try go_bits); all_goals (go_at_call 60; refine (c3 _).mono ?_; rintro e w2 ⟨rfl, hb⟩; exact ⟨rfl, hw'.trans (hb.mono (below_le hw' (by simp)))⟩))); go_simp; (try go_bits); refine hK _ ?_; clear hK K) | (refine flow_quiet rfl rfl (fun K hK => ?_); apply Exists.intro; apply And.intro; (focus (intro w' hw'; have hc := (bcell hw').1; go_simp; (try go_bits); all_goals (go_at_call 60; refine (c4 _).mono ?_; rintro e w2 ⟨rfl, hb⟩; exact ⟨rfl, hw'.trans (hb.mono (below_le hw' (by simp)))⟩))); go_simp; (try go_bits); refine hK _ ?_; clear hK K) | (refine flow_quiet rfl rfl (fun K hK => ?_); apply Exists.intro; apply And.intro; (focus (intro w' hw'; have hc := (bcell hw').1; go_simp; (try go_bits); all_goals (go_at_call 60; refine (c6 _).mono ?_; rintro e w2 ⟨rfl, hb⟩; exact ⟨rfl, hw'.trans (hb.mono (below_le hw' (by simp)))⟩))); go_simp; (try go_bits); refine hK _ ?_; clear hK K)
  first | (refine flow_quiet rfl rfl (fun K hK => ?_); apply Exists.intro; apply And.intro; (focus (intro w' hw'; have hc := (bcell hw').1; go_simp; (try go_bits); all_goals (go_at_call 18; with_reducible refine (c5 _).mono ?_; rintro e w2 ⟨rfl, hb⟩; exact ⟨rfl, hw'.trans (hb.mono (below_le hw' (by simp)))⟩))); go_simp; (try go_bits); refine hK _ ?_; clear hK K) | (refine flow_quiet rfl rfl (fun K hK => ?_); apply Exists.intro; apply And.intro; (focus (intro w' hw'; have hc := (bcell hw').1; go_simp; (try go_bits); all_goals (go_at_call 18; refine (c5 _).mono ?_; rintro e w2 ⟨rfl, hb⟩; exact ⟨rfl, hw'.trans (hb.mono (below_le hw' (by simp)))⟩))); go_simp; (try go_bits); refine hK _ ?_; clear hK K)
  (refine flow_quiet rfl rfl (fun K hK => ?_); apply Exists.intro; apply And.intro; (focus (intro w' hw'; have hc := (bcell hw').1; go_simp; (try go_bits); all_goals (first | exact rfl | exact ⟨rfl, hw'⟩))); go_simp; (try go_bits); refine hK _ ?_; clear hK K)
  first | (refine flow_quiet rfl rfl (fun K hK => ?_); apply Exists.intro; apply And.intro; (focus (intro w' hw'; have hc := (bcell hw').1; go_simp; (try go_bits); all_goals (go_at_call 61; with_reducible refine (c1 _).mono ?_; rintro e w2 ⟨rfl, hb⟩; exact ⟨rfl, hw'.trans (hb.mono (below_le hw' (by simp)))⟩))); go_simp; (try go_bits); refine hK _ ?_; clear hK K) | (refine flow_quiet rfl rfl (fun K hK => ?_); apply Exists.intro; apply And.intro; (focus (intro w' hw'; have hc := (bcell hw').1; go_simp; (try go_bits); all_goals (go_at_call 61; with_reducible refine (c2 _).mono ?_; rintro e w2 ⟨rfl, hb⟩; exact ⟨rfl, hw'.trans (hb.mono (below_le hw' (by simp)))⟩))); go_simp; (try go_bits); refine hK _ ?_; clear hK K) | (refine flow_quiet rfl rfl (fun K hK => ?_); apply Exists.intro; apply And.intro; (focus (intro w' hw'; have hc := (bcell hw').1; go_simp; (try go_bits); all_goals (go_at_call 61; refine (c1 _).mono ?_; rintro e w2 ⟨rfl, hb⟩; exact ⟨rfl, hw'.trans (hb.mono (below_le hw' (by simp)))⟩))); go_simp; (try go_bits); refine hK _ ?_; clear hK K) | (refine flow_quiet rfl rfl (fun K hK => ?_); apply Exists.intro; apply And.intro; (focus (intro w' hw'; have hc := (bcell hw').1; go_simp; (try go_bits); all_goals (go_at_call 61; refine (c2 _).mono ?_; rintro e w2 ⟨rfl, hb⟩; exact ⟨rfl, hw'.trans (hb.mono (below_le hw' (by simp)))⟩))); go_simp; (try go_bits); refine hK _ ?_; clear hK K)
  (refine flow_quiet rfl rfl (fun K hK => ?_); apply Exists.intro; apply And.intro; (focus (intro w' hw'; have hc := (bcell hw').1; go_simp; (try go_bits); all_goals (first | exact rfl | exact ⟨rfl, hw'⟩))); go_simp; (try go_bits); refine hK _ ?_; clear hK K)
  first | (refine flow_quiet rfl rfl (fun K hK => ?_); apply Exists.intro; apply And.intro; (focus (intro w' hw'; have hc := (bcell hw').1; go_simp; (try go_bits); all_goals (go_at_call 61; with_reducible refine (c1 _).mono ?_; rintro e w2 ⟨rfl, hb⟩; exact ⟨rfl, hw'.trans (hb.mono (below_le hw' (by simp)))⟩))); go_simp; (try go_bits); refine hK _ ?_; clear hK K) | (refine flow_quiet rfl rfl (fun K hK => ?_); apply Exists.intro; apply And.intro; (focus (intro w' hw'; have hc := (bcell hw').1; go_simp; (try go_bits); all_goals (go_at_call 61; with_reducible refine (c2 _).mono ?_; rintro e w2 ⟨rfl, hb⟩; exact ⟨rfl, hw'.trans (hb.mono (below_le hw' (by simp)))⟩))); go_simp; (try go_bits); refine hK _ ?_; clear hK K) | (refine flow_quiet rfl rfl (fun K hK => ?_); apply Exists.intro; apply And.intro; (focus (intro w' hw'; have hc := (bcell hw').1; go_simp; (try go_bits); all_goals (go_at_call 61; refine (c1 _).mono ?_; rintro e w2 ⟨rfl, hb⟩; exact ⟨rfl, hw'.trans (hb.mono (below_le hw' (by simp)))⟩))); go_simp; (try go_bits); refine hK _ ?_; clear hK K) | (refine flow_quiet rfl rfl (fun K hK => ?_); apply Exists.intro; apply And.intro; (focus (intro w' hw'; have hc := (bcell hw').1; go_simp; (try go_bits); all_goals (go_at_call 61; refine (c2 _).mono ?_; rintro e w2 ⟨rfl, hb⟩; exact ⟨rfl, hw'.trans (hb.mono (below_le hw' (by simp)))⟩))); go_simp; (try go_bits); refine hK _ ?_; clear hK K)
  (refine flow_quiet rfl rfl (fun K hK => ?_); apply Exists.intro; apply And.intro; (focus (intro w' hw'; have hc := (bcell hw').1; go_simp; (try go_bits); all_goals (first | exact rfl | exact ⟨rfl, hw'⟩))); go_simp; (try go_bits); refine hK _ ?_; clear hK K)
  first | (refine flow_quiet rfl rfl (fun K hK => ?_); apply Exists.intro; apply And.intro; (focus (intro w' hw'; have hc := (bcell hw').1; go_simp; (try go_bits); all_goals (go_at_call 60; with_reducible refine (c3 _).mono ?_; rintro e w2 ⟨rfl, hb⟩; exact ⟨rfl, hw'.trans (hb.mono (below_le hw' (by simp)))⟩))); go_simp; (try go_bits); refine hK _ ?_; clear hK K) | (refine flow_quiet rfl rfl (fun K hK => ?_); apply Exists.intro; apply And.intro; (focus (intro w' hw'; have hc := (bcell hw').1; go_simp; (try go_bits); all_goals (go_at_call 60; with_reducible refine (c4 _).mono ?_; rintro e w2 ⟨rfl, hb⟩; exact ⟨rfl, hw'.trans (hb.mono (below_le hw' (by simp)))⟩))); go_simp; (try go_bits); refine hK _ ?_; clear hK K) | (refine flow_quiet rfl rfl (fun K hK => ?_); apply Exists.intro; apply And.intro; (focus (intro w' hw'; have hc := (bcell hw').1; go_simp; (try go_bits); all_goals (go_at_call 60; with_reducible refine (c6 _).mono ?_; rintro e w2 ⟨rfl, hb⟩; exact ⟨rfl, hw'.trans (hb.mono (below_le hw' (by simp)))⟩))); go_simp; (try go_bits); refine hK _ ?_; clear hK K) | (refine flow_quiet rfl rfl (fun K hK => ?_); apply Exists.intro; apply And.intro; (focus (intro w' hw'; have hc := (bcell hw').1; go_simp; (try go_bits); all_goals (go_at_call 60; refine (c3 _).mono ?_; rintro e w2 ⟨rfl, hb⟩; exact ⟨rfl, hw'.trans (hb.mono (below_le hw' (by simp)))⟩))); go_simp; (try go_bits); refine hK _ ?_; clear hK K) | (refine flow_quiet rfl rfl (fun K hK => ?_); apply Exists.intro; apply And.intro; (focus (intro w' hw'; have hc := (bcell hw').1; go_simp; (try go_bits); all_goals (go_at_call 60; refine (c4 _).mono ?_; rintro e w2 ⟨rfl, hb⟩; exact ⟨rfl, hw'.trans (hb.mono (below_le hw' (by simp)))⟩))); go_simp; (try go_bits); refine hK _ ?_; clear hK K) | (refine flow_quiet rfl rfl (fun K hK => ?_); apply Exists.intro; apply And.intro; (focus (intro w' hw'; have hc := (bcell hw').1; go_simp; (try go_bits); all_goals (go_at_call 60; refine (c6 _).mono ?_; rintro e w2 ⟨rfl, hb⟩; exact ⟨rfl, hw'.trans (hb.mono (below_le hw' (by simp)))⟩))); go_simp; (try go_bits); refine hK _ ?_; clear hK K)
  (refine flow_eff rfl rfl (fun K hK => ?_); apply Exists.intro; apply Exists.intro; apply And.intro; (focus (intro w' hw'; have hc := (bcell hw').1; have hf := (bcell hw').2; go_simp; (try go_bits); refine ⟨rfl, ?_⟩; (repeat apply below_store); exact hw')); go_simp; (try go_bits); refine hK _ _ ?_; clear hK K)
  refine flow_nil ?_
  intro w' hw'
  have hc_w' := (bcell hw').1; have hf_w' := (bcell hw').2; have hz_w' : _ ≤ w'.heap.size := hw'.size; (try simp only [World.size_alloc, World.heap_drewN, World.size_setCell, heap_drew] at hc_w' hf_w' hz_w'); have hz_w'_w_0 : w.heap.size < w'.heap.size := (by omega); have hz_w'_w_1 : w.heap.size + 1 < w'.heap.size := (by omega); have hz_w'_w_2 : w.heap.size + 1 + 1 < w'.heap.size := (by omega)
  go_wp2
  refine bodyPost_ret (by simp only [results, Try.results22]; go_simp) rfl ⟨rfl, ?_⟩
  repeat (first | exact Below.refl _ _ | refine below_drewN ?_ _ | refine Below.drew ?_ | refine Below.setCell ?_ (by first | omega | (simp; done) | (simp; omega)) _ | refine Below.alloc ?_ (by first | omega | (simp; done) | (simp; omega)) _ | refine Below.trans ?_ (Below.mono (by assumption) (by first | omega | (simp; done) | (simp; omega))))

end Go.Proofs.Ytmegpggpndjjcaa
