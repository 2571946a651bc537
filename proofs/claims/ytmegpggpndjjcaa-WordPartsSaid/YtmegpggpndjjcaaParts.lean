/-
  A quotient times the divisor, and the remainder, are the dividend, also with signs: pharoslaw01.WordParts returns true at every input. Conditions: none.
-/
import Derived.Test.YtmegpggpndjjcaaShown
import Derived.Test.YtmegpggpndjjcaaMods
import Derived.Test.YtmegpggpndjjcaaR4
import Derived.Test.YtmegpggpndjjcaaOpen
namespace Go.Proofs.Ytmegpggpndjjcaa.WordPartsDone
open Go.ChangeShapes Go.WideShapes Go.ChangeAt Go.RowKit Go.Proofs.Ytmegpggpndjjcaa
attribute [local go_sem] leftBy eqW guardW
set_option linter.unusedSimpArgs false
set_option linter.unusedVariables false


/-- A word with its sign, as an integer, but for whole multiples of 2^256. -/
theorem tnd_k {x : Nat} (hx : x < Q256) (y : Bool) : ∃ k : Int, ((tnd x y : Nat) : Int) = (if y then -((x : Nat) : Int) else ((x : Nat) : Int)) + (Q256 : Int) * k := by
  cases y
  · exact ⟨0, by unfold tnd; simp⟩
  · by_cases h : x = 0
    · subst h
      exact ⟨0, by unfold tnd Q256; simp⟩
    · refine ⟨1, ?_⟩
      unfold tnd
      rw [if_pos rfl, Nat.mod_eq_of_lt (by omega)]
      simp only [if_true]
      omega

theorem of_int {x a : Nat} (ha : a < Q256) {k : Int} (h : ((x : Nat) : Int) = ((a : Nat) : Int) + (Q256 : Int) * k) : x % Q256 = a := by
  have h1 : ((x : Nat) : Int) % (Q256 : Int) = ((a : Nat) : Int) := by
    rw [h, Int.add_mul_emod_self_left]
    exact Int.emod_eq_of_lt (by omega) (by omega)
  omega

theorem signed_parts {a b : Nat} (ha : a < Q256) (hb : b < Q256) (h0 : b ≠ 0) : (sdivW a b * b % Q256 + smodW a b) % Q256 = a := by
  unfold sdivW smodW
  generalize hna : negB a = na
  generalize hnb : negB b = nb
  obtain ⟨ka, eA⟩ := tnd_k ha na
  obtain ⟨kb, eB⟩ := tnd_k hb nb
  have hA := tnd_lt ha na
  have hB := tnd_lt hb nb
  have hB0 : tnd b nb ≠ 0 := by
    cases nb
    · unfold tnd; simpa using h0
    · unfold tnd
      rw [if_pos rfl, Nat.mod_eq_of_lt (by omega)]
      omega
  generalize tnd a na = A at *
  generalize tnd b nb = B at *
  have hdm := Nat.div_add_mod A B
  have hd : divW A B = A / B := by unfold divW; rw [if_neg hB0]
  have hm : modW A B = A % B := by unfold modW; rw [if_neg hB0]
  have hdl : A / B < Q256 := Nat.lt_of_le_of_lt (Nat.div_le_self _ _) hA
  have hml : A % B < Q256 := Nat.lt_of_le_of_lt (Nat.mod_le _ _) hA
  rw [hd, hm]
  generalize A / B = d at *
  generalize A % B = r at *
  obtain ⟨kd, eD⟩ := tnd_k hdl (na != nb)
  obtain ⟨kr, eR⟩ := tnd_k hml na
  generalize tnd d (na != nb) = s at *
  generalize tnd r na = t at *
  have e0 : (s * b % Q256 + t) % Q256 = (s * b + t) % Q256 := by rw [Nat.add_mod, Nat.mod_mod, ← Nat.add_mod]
  rw [e0]
  have hI : ((B : Nat) : Int) * ((d : Nat) : Int) + ((r : Nat) : Int) = ((A : Nat) : Int) := by rw [← hdm]; push_cast; rfl
  have hX : ((s * b + t : Nat) : Int) = ((s : Nat) : Int) * ((b : Nat) : Int) + ((t : Nat) : Int) := by push_cast; rfl
  clear hdm hd hm hdl hml hA hB hB0 hna hnb h0 e0
  generalize hQ : (Q256 : Int) = Q at *
  have key : ∃ K : Int, ((s : Nat) : Int) * ((b : Nat) : Int) + ((t : Nat) : Int) = ((a : Nat) : Int) + Q * K := by
    cases na <;> cases nb <;> simp only [Bool.bne_false, Bool.bne_true, Bool.not_false, Bool.not_true, if_true, if_false, Bool.false_eq_true] at eA eB eD eR
    · exact ⟨(d : Int) * -kb + (B : Int) * kd + Q * kd * -kb + kr + ka, by grind⟩
    · exact ⟨-(d : Int) * kb - (B : Int) * kd + Q * kd * kb + kr + ka, by grind⟩
    · exact ⟨-(d : Int) * -kb + (B : Int) * kd + Q * kd * -kb + kr - ka, by grind⟩
    · exact ⟨(d : Int) * kb - (B : Int) * kd + Q * kd * kb + kr - ka, by grind⟩
  obtain ⟨K, hK⟩ := key
  rw [← hX, ← hQ] at hK
  exact of_int ha hK

theorem whole_parts {a b : Nat} (ha : a < Q256) (h0 : b ≠ 0) : (divW a b * b % Q256 + modW a b) % Q256 = a := by
  have hd : divW a b = a / b := by unfold divW; rw [if_neg h0]
  have hm : modW a b = a % b := by unfold modW; rw [if_neg h0]
  rw [hd, hm, Nat.add_mod, Nat.mod_mod, ← Nat.add_mod, Nat.mul_comm, Nat.div_add_mod, Nat.mod_eq_of_lt ha]

theorem below_parts {a b : Nat} (h0 : b ≠ 0) : ltB (modW a b) b = true := by
  unfold ltB modW
  rw [if_neg h0, decide_eq_true_eq]
  exact Nat.mod_lt _ (by omega)

attribute [local irreducible] lb addmodW mulmodW divW modW sdivW smodW ltB tnd negB

set_option maxHeartbeats 4000000 in
theorem walkZ (a b : Nat) (hz : (((lb b 0 : Nat) : Int) == 0 && (((lb b 1 : Nat) : Int) == 0 && (((lb b 2 : Nat) : Int) == 0 && ((lb b 3 : Nat) : Int) == 0))) = true)
    (c1 : ∀ W, Calls Try.prog 18 #[W4 a, W4 b] W fun e w' => e = .returned (W4 b) ∧ Below W.heap.size W w')
    (c2 : ∀ W, Calls Try.prog 20 #[W4 a, W4 b] W fun e w' => e = .returned (W4 b) ∧ Below W.heap.size W w') (w : World) :
    Calls Try.prog 12 #[W4 a, W4 b] w fun e w' => e = .returned (.bool true) ∧ Below w.heap.size w w' := by
  go_enter Try.func12, Try.ntmps12
  go_wp2_with (go_at_call 14; refine (shown_any _).mono ?_; rintro e wa ⟨rfl, hb_wa⟩; have hc_wa := (bcell hb_wa).1; have hf_wa := (bcell hb_wa).2; have hz_wa : _ ≤ wa.heap.size := hb_wa.size; (try simp only [World.size_alloc, World.heap_drewN, World.size_setCell, heap_drew] at hc_wa hf_wa hz_wa); have hz_wa_w_0 : w.heap.size < wa.heap.size := (by omega); have hz_wa_w_1 : w.heap.size + 1 < wa.heap.size := (by omega))
  refine wp_flow (fun k => ([1, 1, 1, 1, 1, 1, 1, 1, 1, 1, 1, 1, 1, 1, 1, 1] : List Nat).getD k 1) (Below (wa.heap.size)) _ (Below.drew (Below.refl _ _)) (by kernel_rfl) (by kernel_rfl) ?_
  (refine flow_quiet rfl rfl (fun K hK => ?_); apply Exists.intro; apply And.intro; (focus (intro w' hw'; have hc := (bcell hw').1; go_simp; (try go_bits); all_goals (first | exact rfl | exact ⟨rfl, hw'⟩))); go_simp; (try go_bits); refine hK _ ?_; clear hK K)
  (refine flow_quiet rfl rfl (fun K hK => ?_); apply Exists.intro; apply And.intro; (focus (intro w' hw'; have hc := (bcell hw').1; go_simp; (try go_bits); all_goals (first | exact rfl | exact ⟨rfl, hw'⟩))); go_simp; (try go_bits); refine hK _ ?_; clear hK K)
  first | (refine flow_skip rfl (fun K hK => ?_); go_simp; (try go_bits); refine hK _ ?_; clear hK K) | (refine flow_quiet rfl rfl (fun K hK => ?_); apply Exists.intro; apply And.intro; (focus (intro w' hw'; have hc := (bcell hw').1; go_simp; (try go_bits); all_goals (first | exact rfl | exact ⟨rfl, hw'⟩))); go_simp; (try go_bits); refine hK _ ?_; clear hK K)
  first | (refine flow_skip rfl (fun K hK => ?_); go_simp; (try go_bits); refine hK _ ?_; clear hK K) | (refine flow_quiet rfl rfl (fun K hK => ?_); apply Exists.intro; apply And.intro; (focus (intro w' hw'; have hc := (bcell hw').1; go_simp; (try go_bits); all_goals (first | exact rfl | exact ⟨rfl, hw'⟩))); go_simp; (try go_bits); refine hK _ ?_; clear hK K)
  first | (refine flow_skip rfl (fun K hK => ?_); go_simp; (try go_bits); refine hK _ ?_; clear hK K) | (refine flow_quiet rfl rfl (fun K hK => ?_); apply Exists.intro; apply And.intro; (focus (intro w' hw'; have hc := (bcell hw').1; go_simp; (try go_bits); all_goals (go_at_call 18; with_reducible refine (c1 _).mono ?_; rintro e w2 ⟨rfl, hb⟩; exact ⟨rfl, hw'.trans (hb.mono (below_le hw' (by simp)))⟩))); go_simp; (try go_bits); refine hK _ ?_; clear hK K) | (refine flow_quiet rfl rfl (fun K hK => ?_); apply Exists.intro; apply And.intro; (focus (intro w' hw'; have hc := (bcell hw').1; go_simp; (try go_bits); all_goals (go_at_call 18; refine (c1 _).mono ?_; rintro e w2 ⟨rfl, hb⟩; exact ⟨rfl, hw'.trans (hb.mono (below_le hw' (by simp)))⟩))); go_simp; (try go_bits); refine hK _ ?_; clear hK K)
  first | (refine flow_skip rfl (fun K hK => ?_); go_simp; (try go_bits); refine hK _ ?_; clear hK K) | (refine flow_quiet rfl rfl (fun K hK => ?_); apply Exists.intro; apply And.intro; (focus (intro w' hw'; have hc := (bcell hw').1; go_simp; (try go_bits); all_goals (first | exact rfl | exact ⟨rfl, hw'⟩))); go_simp; (try go_bits); refine hK _ ?_; clear hK K)
  first | (refine flow_skip rfl (fun K hK => ?_); go_simp; (try go_bits); refine hK _ ?_; clear hK K) | (refine flow_quiet rfl rfl (fun K hK => ?_); apply Exists.intro; apply And.intro; (focus (intro w' hw'; have hc := (bcell hw').1; go_simp; (try go_bits); all_goals (first | exact rfl | exact ⟨rfl, hw'⟩))); go_simp; (try go_bits); refine hK _ ?_; clear hK K)
  (refine flow_quiet rfl rfl (fun K hK => ?_); apply Exists.intro; apply And.intro; (focus (intro w' hw'; have hc := (bcell hw').1; go_simp; (try go_bits); all_goals (first | exact rfl | exact ⟨rfl, hw'⟩))); go_simp; (try go_bits); refine hK _ ?_; clear hK K)
  (refine flow_quiet rfl rfl (fun K hK => ?_); apply Exists.intro; apply And.intro; (focus (intro w' hw'; have hc := (bcell hw').1; go_simp; (try go_bits); all_goals (first | exact rfl | exact ⟨rfl, hw'⟩))); go_simp; (try go_bits); refine hK _ ?_; clear hK K)
  first | (refine flow_skip rfl (fun K hK => ?_); go_simp; (try go_bits); refine hK _ ?_; clear hK K) | (refine flow_quiet rfl rfl (fun K hK => ?_); apply Exists.intro; apply And.intro; (focus (intro w' hw'; have hc := (bcell hw').1; go_simp; (try go_bits); all_goals (first | exact rfl | exact ⟨rfl, hw'⟩))); go_simp; (try go_bits); refine hK _ ?_; clear hK K)
  first | (refine flow_skip rfl (fun K hK => ?_); go_simp; (try go_bits); refine hK _ ?_; clear hK K) | (refine flow_quiet rfl rfl (fun K hK => ?_); apply Exists.intro; apply And.intro; (focus (intro w' hw'; have hc := (bcell hw').1; go_simp; (try go_bits); all_goals (first | exact rfl | exact ⟨rfl, hw'⟩))); go_simp; (try go_bits); refine hK _ ?_; clear hK K)
  first | (refine flow_skip rfl (fun K hK => ?_); go_simp; (try go_bits); refine hK _ ?_; clear hK K) | (refine flow_quiet rfl rfl (fun K hK => ?_); apply Exists.intro; apply And.intro; (focus (intro w' hw'; have hc := (bcell hw').1; go_simp; (try go_bits); all_goals (go_at_call 20; with_reducible refine (c2 _).mono ?_; rintro e w2 ⟨rfl, hb⟩; exact ⟨rfl, hw'.trans (hb.mono (below_le hw' (by simp)))⟩))); go_simp; (try go_bits); refine hK _ ?_; clear hK K) | (refine flow_quiet rfl rfl (fun K hK => ?_); apply Exists.intro; apply And.intro; (focus (intro w' hw'; have hc := (bcell hw').1; go_simp; (try go_bits); all_goals (go_at_call 20; refine (c2 _).mono ?_; rintro e w2 ⟨rfl, hb⟩; exact ⟨rfl, hw'.trans (hb.mono (below_le hw' (by simp)))⟩))); go_simp; (try go_bits); refine hK _ ?_; clear hK K)
  first | (refine flow_skip rfl (fun K hK => ?_); go_simp; (try go_bits); refine hK _ ?_; clear hK K) | (refine flow_quiet rfl rfl (fun K hK => ?_); apply Exists.intro; apply And.intro; (focus (intro w' hw'; have hc := (bcell hw').1; go_simp; (try go_bits); all_goals (first | exact rfl | exact ⟨rfl, hw'⟩))); go_simp; (try go_bits); refine hK _ ?_; clear hK K)
  first | (refine flow_skip rfl (fun K hK => ?_); go_simp; (try go_bits); refine hK _ ?_; clear hK K) | (refine flow_quiet rfl rfl (fun K hK => ?_); apply Exists.intro; apply And.intro; (focus (intro w' hw'; have hc := (bcell hw').1; go_simp; (try go_bits); all_goals (first | exact rfl | exact ⟨rfl, hw'⟩))); go_simp; (try go_bits); refine hK _ ?_; clear hK K)
  (refine flow_quiet rfl rfl (fun K hK => ?_); apply Exists.intro; apply And.intro; (focus (intro w' hw'; have hc := (bcell hw').1; go_simp; (try go_bits); all_goals (first | exact rfl | exact ⟨rfl, hw'⟩))); go_simp; (try go_bits); refine hK _ ?_; clear hK K)
  (refine flow_quiet rfl rfl (fun K hK => ?_); apply Exists.intro; apply And.intro; (focus (intro w' hw'; have hc := (bcell hw').1; go_simp; (try go_bits); all_goals (first | exact rfl | exact ⟨rfl, hw'⟩))); go_simp; (try go_bits); refine hK _ ?_; clear hK K)
  refine flow_nil ?_
  intro w' hw'
  have hc_w' := (bcell hw').1; have hf_w' := (bcell hw').2; have hz_w' : _ ≤ w'.heap.size := hw'.size; (try simp only [World.size_alloc, World.heap_drewN, World.size_setCell, heap_drew] at hc_w' hf_w' hz_w')
  go_wp2
  go_ret
  refine ⟨rfl, ?_⟩
  repeat (with_reducible first | exact Below.refl _ _ | assumption | refine below_drewN ?_ _ | refine Below.drew ?_ | refine Below.setCell ?_ (by first | omega | (simp; done) | (simp; omega)) _ | refine Below.alloc ?_ (by first | omega | (simp; done) | (simp; omega)) _ | refine Below.trans ?_ (Below.mono (by assumption) (by first | omega | (simp; done) | (simp; omega))))

set_option maxRecDepth 100000 in
set_option maxHeartbeats 8000000 in
theorem walkN (a b q r s t u v z : Nat) (hz : (((lb b 0 : Nat) : Int) == 0 && (((lb b 1 : Nat) : Int) == 0 && (((lb b 2 : Nat) : Int) == 0 && ((lb b 3 : Nat) : Int) == 0))) = false)
    (c1 : ∀ W, Calls Try.prog 18 #[W4 a, W4 b] W fun e w' => e = .returned (W4 q) ∧ Below W.heap.size W w')
    (c2 : ∀ W, Calls Try.prog 20 #[W4 a, W4 b] W fun e w' => e = .returned (W4 r) ∧ Below W.heap.size W w')
    (c3 : ∀ W, Calls Try.prog 22 #[W4 a, W4 b] W fun e w' => e = .returned (W4 s) ∧ Below W.heap.size W w')
    (c4 : ∀ W, Calls Try.prog 24 #[W4 a, W4 b] W fun e w' => e = .returned (W4 t) ∧ Below W.heap.size W w')
    (c5 : ∀ W, Calls Try.prog 15 #[W4 r, W4 b] W fun e w' => e = .returned (.bool true) ∧ Below W.heap.size W w')
    (c6 : ∀ W, Calls Try.prog 33 #[W4 q, W4 b] W fun e w' => e = .returned (W4 u) ∧ Below W.heap.size W w')
    (c7 : ∀ W, Calls Try.prog 17 #[W4 u, W4 r] W fun e w' => e = .returned (W4 a) ∧ Below W.heap.size W w')
    (c8 : ∀ W, Calls Try.prog 33 #[W4 s, W4 b] W fun e w' => e = .returned (W4 v) ∧ Below W.heap.size W w')
    (c9 : ∀ W, Calls Try.prog 17 #[W4 v, W4 t] W fun e w' => e = .returned (W4 a) ∧ Below W.heap.size W w')
    (c10 : ∀ W, Calls Try.prog 35 #[.int .u64 0] W fun e w' => e = .returned (W4 z) ∧ Below W.heap.size W w')
    (c11 : ∀ W, Calls Try.prog 43 #[W4 q, W4 b, W4 z] W fun e w' => e = .returned (W4 z) ∧ Below W.heap.size W w') (w : World) :
    Calls Try.prog 12 #[W4 a, W4 b] w fun e w' => e = .returned (.bool true) ∧ Below w.heap.size w w' := by
  go_enter Try.func12, Try.ntmps12
  go_wp2_with (first | (go_at_call 14; refine (shown_any _).mono ?_; rintro e wa ⟨rfl, hb_wa⟩; have hc_wa := (bcell hb_wa).1; have hf_wa := (bcell hb_wa).2; have hz_wa : _ ≤ wa.heap.size := hb_wa.size; (try simp only [World.size_alloc, World.heap_drewN, World.size_setCell, heap_drew] at hc_wa hf_wa hz_wa); have hz_wa_w_0 : w.heap.size < wa.heap.size := (by omega); have hz_wa_w_1 : w.heap.size + 1 < wa.heap.size := (by omega)) | (go_at_call 18; with_reducible refine (c1 _).mono ?_; rintro e wb ⟨rfl, hb_wb⟩; have hc_wb := (bcell hb_wb).1; have hf_wb := (bcell hb_wb).2; have hz_wb : _ ≤ wb.heap.size := hb_wb.size; (try simp only [World.size_alloc, World.heap_drewN, World.size_setCell, heap_drew] at hc_wb hf_wb hz_wb); have hz_wb_w_0 : w.heap.size < wb.heap.size := (by omega); have hz_wb_w_1 : w.heap.size + 1 < wb.heap.size := (by omega)) | (go_at_call 20; with_reducible refine (c2 _).mono ?_; rintro e wc ⟨rfl, hb_wc⟩; have hc_wc := (bcell hb_wc).1; have hf_wc := (bcell hb_wc).2; have hz_wc : _ ≤ wc.heap.size := hb_wc.size; (try simp only [World.size_alloc, World.heap_drewN, World.size_setCell, heap_drew] at hc_wc hf_wc hz_wc); have hz_wc_w_0 : w.heap.size < wc.heap.size := (by omega); have hz_wc_w_1 : w.heap.size + 1 < wc.heap.size := (by omega); have hz_wc_wb_0 : wb.heap.size < wc.heap.size := (by omega)) | (go_at_call 22; with_reducible refine (c3 _).mono ?_; rintro e wd ⟨rfl, hb_wd⟩; have hc_wd := (bcell hb_wd).1; have hf_wd := (bcell hb_wd).2; have hz_wd : _ ≤ wd.heap.size := hb_wd.size; (try simp only [World.size_alloc, World.heap_drewN, World.size_setCell, heap_drew] at hc_wd hf_wd hz_wd); have hz_wd_w_0 : w.heap.size < wd.heap.size := (by omega); have hz_wd_w_1 : w.heap.size + 1 < wd.heap.size := (by omega); have hz_wd_wb_0 : wb.heap.size < wd.heap.size := (by omega); have hz_wd_wc_0 : wc.heap.size < wd.heap.size := (by omega)) | (go_at_call 24; with_reducible refine (c4 _).mono ?_; rintro e we ⟨rfl, hb_we⟩; have hc_we := (bcell hb_we).1; have hf_we := (bcell hb_we).2; have hz_we : _ ≤ we.heap.size := hb_we.size; (try simp only [World.size_alloc, World.heap_drewN, World.size_setCell, heap_drew] at hc_we hf_we hz_we); have hz_we_w_0 : w.heap.size < we.heap.size := (by omega); have hz_we_w_1 : w.heap.size + 1 < we.heap.size := (by omega); have hz_we_wb_0 : wb.heap.size < we.heap.size := (by omega); have hz_we_wc_0 : wc.heap.size < we.heap.size := (by omega); have hz_we_wd_0 : wd.heap.size < we.heap.size := (by omega)))
  refine wp_flow (fun k => ([1, 1, 1, 1, 1, 1, 1, 1, 1, 1, 1, 1, 1, 1, 1, 1, 1, 1, 1, 1, 1, 1, 1, 1, 1, 1, 1, 1, 1, 1, 1, 1, 1] : List Nat).getD k 1) (Below (we.heap.size + 1)) _ (Below.drew (Below.refl _ _)) (by kernel_rfl) (by kernel_rfl) ?_
  (refine flow_quiet rfl rfl (fun K hK => ?_); apply Exists.intro; apply And.intro; (focus (intro w' hw'; have hc := (bcell hw').1; go_simp; (try go_bits); all_goals (first | exact rfl | exact ⟨rfl, hw'⟩))); go_simp; (try go_bits); refine hK _ ?_; clear hK K)
  (refine flow_quiet rfl rfl (fun K hK => ?_); apply Exists.intro; apply And.intro; (focus (intro w' hw'; have hc := (bcell hw').1; go_simp; (try go_bits); all_goals (first | exact rfl | exact ⟨rfl, hw'⟩))); go_simp; (try go_bits); refine hK _ ?_; clear hK K)
  first | (refine flow_skip rfl (fun K hK => ?_); go_simp; (try go_bits); refine hK _ ?_; clear hK K) | (refine flow_quiet rfl rfl (fun K hK => ?_); apply Exists.intro; apply And.intro; (focus (intro w' hw'; have hc := (bcell hw').1; go_simp; (try go_bits); all_goals (first | exact rfl | exact ⟨rfl, hw'⟩))); go_simp; (try go_bits); refine hK _ ?_; clear hK K)
  first | (refine flow_skip rfl (fun K hK => ?_); go_simp; (try go_bits); refine hK _ ?_; clear hK K) | (refine flow_quiet rfl rfl (fun K hK => ?_); apply Exists.intro; apply And.intro; (focus (intro w' hw'; have hc := (bcell hw').1; go_simp; (try go_bits); all_goals (first | exact rfl | exact ⟨rfl, hw'⟩))); go_simp; (try go_bits); refine hK _ ?_; clear hK K)
  first | (refine flow_skip rfl (fun K hK => ?_); go_simp; (try go_bits); refine hK _ ?_; clear hK K) | (refine flow_quiet rfl rfl (fun K hK => ?_); apply Exists.intro; apply And.intro; (focus (intro w' hw'; have hc := (bcell hw').1; go_simp; (try go_bits); all_goals (go_at_call 15; with_reducible refine (c5 _).mono ?_; rintro e w2 ⟨rfl, hb⟩; exact ⟨rfl, hw'.trans (hb.mono (below_le hw' (by simp)))⟩))); go_simp; (try go_bits); refine hK _ ?_; clear hK K) | (refine flow_quiet rfl rfl (fun K hK => ?_); apply Exists.intro; apply And.intro; (focus (intro w' hw'; have hc := (bcell hw').1; go_simp; (try go_bits); all_goals (go_at_call 15; refine (c5 _).mono ?_; rintro e w2 ⟨rfl, hb⟩; exact ⟨rfl, hw'.trans (hb.mono (below_le hw' (by simp)))⟩))); go_simp; (try go_bits); refine hK _ ?_; clear hK K)
  (refine flow_quiet rfl rfl (fun K hK => ?_); apply Exists.intro; apply And.intro; (focus (intro w' hw'; have hc := (bcell hw').1; go_simp; (try go_bits); all_goals (first | exact rfl | exact ⟨rfl, hw'⟩))); go_simp; (try go_bits); refine hK _ ?_; clear hK K)
  (refine flow_quiet rfl rfl (fun K hK => ?_); apply Exists.intro; apply And.intro; (focus (intro w' hw'; have hc := (bcell hw').1; go_simp; (try go_bits); all_goals (first | exact rfl | exact ⟨rfl, hw'⟩))); go_simp; (try go_bits); refine hK _ ?_; clear hK K)
  first | (refine flow_skip rfl (fun K hK => ?_); go_simp; (try go_bits); refine hK _ ?_; clear hK K) | (refine flow_quiet rfl rfl (fun K hK => ?_); apply Exists.intro; apply And.intro; (focus (intro w' hw'; have hc := (bcell hw').1; go_simp; (try go_bits); all_goals (first | exact rfl | exact ⟨rfl, hw'⟩))); go_simp; (try go_bits); refine hK _ ?_; clear hK K)
  first | (refine flow_skip rfl (fun K hK => ?_); go_simp; (try go_bits); refine hK _ ?_; clear hK K) | (refine flow_quiet rfl rfl (fun K hK => ?_); apply Exists.intro; apply And.intro; (focus (intro w' hw'; have hc := (bcell hw').1; go_simp; (try go_bits); all_goals (first | exact rfl | exact ⟨rfl, hw'⟩))); go_simp; (try go_bits); refine hK _ ?_; clear hK K)
  first | (refine flow_skip rfl (fun K hK => ?_); go_simp; (try go_bits); refine hK _ ?_; clear hK K) | (refine flow_quiet rfl rfl (fun K hK => ?_); apply Exists.intro; apply And.intro; (focus (intro w' hw'; have hc := (bcell hw').1; go_simp; (try go_bits); all_goals (go_at_call 33; with_reducible refine (c6 _).mono ?_; rintro e w2 ⟨rfl, hb⟩; exact ⟨rfl, hw'.trans (hb.mono (below_le hw' (by simp)))⟩))); go_simp; (try go_bits); refine hK _ ?_; clear hK K) | (refine flow_quiet rfl rfl (fun K hK => ?_); apply Exists.intro; apply And.intro; (focus (intro w' hw'; have hc := (bcell hw').1; go_simp; (try go_bits); all_goals (go_at_call 33; with_reducible refine (c8 _).mono ?_; rintro e w2 ⟨rfl, hb⟩; exact ⟨rfl, hw'.trans (hb.mono (below_le hw' (by simp)))⟩))); go_simp; (try go_bits); refine hK _ ?_; clear hK K) | (refine flow_quiet rfl rfl (fun K hK => ?_); apply Exists.intro; apply And.intro; (focus (intro w' hw'; have hc := (bcell hw').1; go_simp; (try go_bits); all_goals (go_at_call 33; refine (c6 _).mono ?_; rintro e w2 ⟨rfl, hb⟩; exact ⟨rfl, hw'.trans (hb.mono (below_le hw' (by simp)))⟩))); go_simp; (try go_bits); refine hK _ ?_; clear hK K) | (refine flow_quiet rfl rfl (fun K hK => ?_); apply Exists.intro; apply And.intro; (focus (intro w' hw'; have hc := (bcell hw').1; go_simp; (try go_bits); all_goals (go_at_call 33; refine (c8 _).mono ?_; rintro e w2 ⟨rfl, hb⟩; exact ⟨rfl, hw'.trans (hb.mono (below_le hw' (by simp)))⟩))); go_simp; (try go_bits); refine hK _ ?_; clear hK K)
  first | (refine flow_skip rfl (fun K hK => ?_); go_simp; (try go_bits); refine hK _ ?_; clear hK K) | (refine flow_quiet rfl rfl (fun K hK => ?_); apply Exists.intro; apply And.intro; (focus (intro w' hw'; have hc := (bcell hw').1; go_simp; (try go_bits); all_goals (first | exact rfl | exact ⟨rfl, hw'⟩))); go_simp; (try go_bits); refine hK _ ?_; clear hK K)
  first | (refine flow_skip rfl (fun K hK => ?_); go_simp; (try go_bits); refine hK _ ?_; clear hK K) | (refine flow_quiet rfl rfl (fun K hK => ?_); apply Exists.intro; apply And.intro; (focus (intro w' hw'; have hc := (bcell hw').1; go_simp; (try go_bits); all_goals (go_at_call 17; with_reducible refine (c7 _).mono ?_; rintro e w2 ⟨rfl, hb⟩; exact ⟨rfl, hw'.trans (hb.mono (below_le hw' (by simp)))⟩))); go_simp; (try go_bits); refine hK _ ?_; clear hK K) | (refine flow_quiet rfl rfl (fun K hK => ?_); apply Exists.intro; apply And.intro; (focus (intro w' hw'; have hc := (bcell hw').1; go_simp; (try go_bits); all_goals (go_at_call 17; with_reducible refine (c9 _).mono ?_; rintro e w2 ⟨rfl, hb⟩; exact ⟨rfl, hw'.trans (hb.mono (below_le hw' (by simp)))⟩))); go_simp; (try go_bits); refine hK _ ?_; clear hK K) | (refine flow_quiet rfl rfl (fun K hK => ?_); apply Exists.intro; apply And.intro; (focus (intro w' hw'; have hc := (bcell hw').1; go_simp; (try go_bits); all_goals (go_at_call 17; refine (c7 _).mono ?_; rintro e w2 ⟨rfl, hb⟩; exact ⟨rfl, hw'.trans (hb.mono (below_le hw' (by simp)))⟩))); go_simp; (try go_bits); refine hK _ ?_; clear hK K) | (refine flow_quiet rfl rfl (fun K hK => ?_); apply Exists.intro; apply And.intro; (focus (intro w' hw'; have hc := (bcell hw').1; go_simp; (try go_bits); all_goals (go_at_call 17; refine (c9 _).mono ?_; rintro e w2 ⟨rfl, hb⟩; exact ⟨rfl, hw'.trans (hb.mono (below_le hw' (by simp)))⟩))); go_simp; (try go_bits); refine hK _ ?_; clear hK K)
  first | (refine flow_skip rfl (fun K hK => ?_); go_simp; (try go_bits); refine hK _ ?_; clear hK K) | (refine flow_quiet rfl rfl (fun K hK => ?_); apply Exists.intro; apply And.intro; (focus (intro w' hw'; have hc := (bcell hw').1; go_simp; (try go_bits); all_goals (first | exact rfl | exact ⟨rfl, hw'⟩))); go_simp; (try go_bits); refine hK _ ?_; clear hK K)
  first | (refine flow_skip rfl (fun K hK => ?_); go_simp; (try go_bits); refine hK _ ?_; clear hK K) | (refine flow_quiet rfl rfl (fun K hK => ?_); apply Exists.intro; apply And.intro; (focus (intro w' hw'; have hc := (bcell hw').1; go_simp; (try go_bits); all_goals (first | exact rfl | exact ⟨rfl, hw'⟩))); go_simp; (try go_bits); refine hK _ ?_; clear hK K)
  (refine flow_quiet rfl rfl (fun K hK => ?_); apply Exists.intro; apply And.intro; (focus (intro w' hw'; have hc := (bcell hw').1; go_simp; (try go_bits); all_goals (first | exact rfl | exact ⟨rfl, hw'⟩))); go_simp; (try go_bits); refine hK _ ?_; clear hK K)
  (refine flow_quiet rfl rfl (fun K hK => ?_); apply Exists.intro; apply And.intro; (focus (intro w' hw'; have hc := (bcell hw').1; go_simp; (try go_bits); all_goals (first | exact rfl | exact ⟨rfl, hw'⟩))); go_simp; (try go_bits); refine hK _ ?_; clear hK K)
  first | (refine flow_skip rfl (fun K hK => ?_); go_simp; (try go_bits); refine hK _ ?_; clear hK K) | (refine flow_quiet rfl rfl (fun K hK => ?_); apply Exists.intro; apply And.intro; (focus (intro w' hw'; have hc := (bcell hw').1; go_simp; (try go_bits); all_goals (first | exact rfl | exact ⟨rfl, hw'⟩))); go_simp; (try go_bits); refine hK _ ?_; clear hK K)
  first | (refine flow_skip rfl (fun K hK => ?_); go_simp; (try go_bits); refine hK _ ?_; clear hK K) | (refine flow_quiet rfl rfl (fun K hK => ?_); apply Exists.intro; apply And.intro; (focus (intro w' hw'; have hc := (bcell hw').1; go_simp; (try go_bits); all_goals (first | exact rfl | exact ⟨rfl, hw'⟩))); go_simp; (try go_bits); refine hK _ ?_; clear hK K)
  first | (refine flow_skip rfl (fun K hK => ?_); go_simp; (try go_bits); refine hK _ ?_; clear hK K) | (refine flow_quiet rfl rfl (fun K hK => ?_); apply Exists.intro; apply And.intro; (focus (intro w' hw'; have hc := (bcell hw').1; go_simp; (try go_bits); all_goals (go_at_call 33; with_reducible refine (c6 _).mono ?_; rintro e w2 ⟨rfl, hb⟩; exact ⟨rfl, hw'.trans (hb.mono (below_le hw' (by simp)))⟩))); go_simp; (try go_bits); refine hK _ ?_; clear hK K) | (refine flow_quiet rfl rfl (fun K hK => ?_); apply Exists.intro; apply And.intro; (focus (intro w' hw'; have hc := (bcell hw').1; go_simp; (try go_bits); all_goals (go_at_call 33; with_reducible refine (c8 _).mono ?_; rintro e w2 ⟨rfl, hb⟩; exact ⟨rfl, hw'.trans (hb.mono (below_le hw' (by simp)))⟩))); go_simp; (try go_bits); refine hK _ ?_; clear hK K) | (refine flow_quiet rfl rfl (fun K hK => ?_); apply Exists.intro; apply And.intro; (focus (intro w' hw'; have hc := (bcell hw').1; go_simp; (try go_bits); all_goals (go_at_call 33; refine (c6 _).mono ?_; rintro e w2 ⟨rfl, hb⟩; exact ⟨rfl, hw'.trans (hb.mono (below_le hw' (by simp)))⟩))); go_simp; (try go_bits); refine hK _ ?_; clear hK K) | (refine flow_quiet rfl rfl (fun K hK => ?_); apply Exists.intro; apply And.intro; (focus (intro w' hw'; have hc := (bcell hw').1; go_simp; (try go_bits); all_goals (go_at_call 33; refine (c8 _).mono ?_; rintro e w2 ⟨rfl, hb⟩; exact ⟨rfl, hw'.trans (hb.mono (below_le hw' (by simp)))⟩))); go_simp; (try go_bits); refine hK _ ?_; clear hK K)
  first | (refine flow_skip rfl (fun K hK => ?_); go_simp; (try go_bits); refine hK _ ?_; clear hK K) | (refine flow_quiet rfl rfl (fun K hK => ?_); apply Exists.intro; apply And.intro; (focus (intro w' hw'; have hc := (bcell hw').1; go_simp; (try go_bits); all_goals (first | exact rfl | exact ⟨rfl, hw'⟩))); go_simp; (try go_bits); refine hK _ ?_; clear hK K)
  first | (refine flow_skip rfl (fun K hK => ?_); go_simp; (try go_bits); refine hK _ ?_; clear hK K) | (refine flow_quiet rfl rfl (fun K hK => ?_); apply Exists.intro; apply And.intro; (focus (intro w' hw'; have hc := (bcell hw').1; go_simp; (try go_bits); all_goals (go_at_call 17; with_reducible refine (c7 _).mono ?_; rintro e w2 ⟨rfl, hb⟩; exact ⟨rfl, hw'.trans (hb.mono (below_le hw' (by simp)))⟩))); go_simp; (try go_bits); refine hK _ ?_; clear hK K) | (refine flow_quiet rfl rfl (fun K hK => ?_); apply Exists.intro; apply And.intro; (focus (intro w' hw'; have hc := (bcell hw').1; go_simp; (try go_bits); all_goals (go_at_call 17; with_reducible refine (c9 _).mono ?_; rintro e w2 ⟨rfl, hb⟩; exact ⟨rfl, hw'.trans (hb.mono (below_le hw' (by simp)))⟩))); go_simp; (try go_bits); refine hK _ ?_; clear hK K) | (refine flow_quiet rfl rfl (fun K hK => ?_); apply Exists.intro; apply And.intro; (focus (intro w' hw'; have hc := (bcell hw').1; go_simp; (try go_bits); all_goals (go_at_call 17; refine (c7 _).mono ?_; rintro e w2 ⟨rfl, hb⟩; exact ⟨rfl, hw'.trans (hb.mono (below_le hw' (by simp)))⟩))); go_simp; (try go_bits); refine hK _ ?_; clear hK K) | (refine flow_quiet rfl rfl (fun K hK => ?_); apply Exists.intro; apply And.intro; (focus (intro w' hw'; have hc := (bcell hw').1; go_simp; (try go_bits); all_goals (go_at_call 17; refine (c9 _).mono ?_; rintro e w2 ⟨rfl, hb⟩; exact ⟨rfl, hw'.trans (hb.mono (below_le hw' (by simp)))⟩))); go_simp; (try go_bits); refine hK _ ?_; clear hK K)
  first | (refine flow_skip rfl (fun K hK => ?_); go_simp; (try go_bits); refine hK _ ?_; clear hK K) | (refine flow_quiet rfl rfl (fun K hK => ?_); apply Exists.intro; apply And.intro; (focus (intro w' hw'; have hc := (bcell hw').1; go_simp; (try go_bits); all_goals (first | exact rfl | exact ⟨rfl, hw'⟩))); go_simp; (try go_bits); refine hK _ ?_; clear hK K)
  first | (refine flow_skip rfl (fun K hK => ?_); go_simp; (try go_bits); refine hK _ ?_; clear hK K) | (refine flow_quiet rfl rfl (fun K hK => ?_); apply Exists.intro; apply And.intro; (focus (intro w' hw'; have hc := (bcell hw').1; go_simp; (try go_bits); all_goals (first | exact rfl | exact ⟨rfl, hw'⟩))); go_simp; (try go_bits); refine hK _ ?_; clear hK K)
  (refine flow_quiet rfl rfl (fun K hK => ?_); apply Exists.intro; apply And.intro; (focus (intro w' hw'; have hc := (bcell hw').1; go_simp; (try go_bits); all_goals (first | exact rfl | exact ⟨rfl, hw'⟩))); go_simp; (try go_bits); refine hK _ ?_; clear hK K)
  (refine flow_quiet rfl rfl (fun K hK => ?_); apply Exists.intro; apply And.intro; (focus (intro w' hw'; have hc := (bcell hw').1; go_simp; (try go_bits); all_goals (first | exact rfl | exact ⟨rfl, hw'⟩))); go_simp; (try go_bits); refine hK _ ?_; clear hK K)
  first | (refine flow_skip rfl (fun K hK => ?_); go_simp; (try go_bits); refine hK _ ?_; clear hK K) | (refine flow_quiet rfl rfl (fun K hK => ?_); apply Exists.intro; apply And.intro; (focus (intro w' hw'; have hc := (bcell hw').1; go_simp; (try go_bits); all_goals (first | exact rfl | exact ⟨rfl, hw'⟩))); go_simp; (try go_bits); refine hK _ ?_; clear hK K)
  first | (refine flow_skip rfl (fun K hK => ?_); go_simp; (try go_bits); refine hK _ ?_; clear hK K) | (refine flow_quiet rfl rfl (fun K hK => ?_); apply Exists.intro; apply And.intro; (focus (intro w' hw'; have hc := (bcell hw').1; go_simp; (try go_bits); all_goals (first | exact rfl | exact ⟨rfl, hw'⟩))); go_simp; (try go_bits); refine hK _ ?_; clear hK K)
  first | (refine flow_skip rfl (fun K hK => ?_); go_simp; (try go_bits); refine hK _ ?_; clear hK K) | (refine flow_quiet rfl rfl (fun K hK => ?_); apply Exists.intro; apply And.intro; (focus (intro w' hw'; have hc := (bcell hw').1; go_simp; (try go_bits); all_goals (go_at_call 35; with_reducible refine (c10 _).mono ?_; rintro e w2 ⟨rfl, hb⟩; exact ⟨rfl, hw'.trans (hb.mono (below_le hw' (by simp)))⟩))); go_simp; (try go_bits); refine hK _ ?_; clear hK K) | (refine flow_quiet rfl rfl (fun K hK => ?_); apply Exists.intro; apply And.intro; (focus (intro w' hw'; have hc := (bcell hw').1; go_simp; (try go_bits); all_goals (go_at_call 35; refine (c10 _).mono ?_; rintro e w2 ⟨rfl, hb⟩; exact ⟨rfl, hw'.trans (hb.mono (below_le hw' (by simp)))⟩))); go_simp; (try go_bits); refine hK _ ?_; clear hK K)
  first | (refine flow_skip rfl (fun K hK => ?_); go_simp; (try go_bits); refine hK _ ?_; clear hK K) | (refine flow_quiet rfl rfl (fun K hK => ?_); apply Exists.intro; apply And.intro; (focus (intro w' hw'; have hc := (bcell hw').1; go_simp; (try go_bits); all_goals (go_at_call 43; with_reducible refine (c11 _).mono ?_; rintro e w2 ⟨rfl, hb⟩; exact ⟨rfl, hw'.trans (hb.mono (below_le hw' (by simp)))⟩))); go_simp; (try go_bits); refine hK _ ?_; clear hK K) | (refine flow_quiet rfl rfl (fun K hK => ?_); apply Exists.intro; apply And.intro; (focus (intro w' hw'; have hc := (bcell hw').1; go_simp; (try go_bits); all_goals (go_at_call 43; refine (c11 _).mono ?_; rintro e w2 ⟨rfl, hb⟩; exact ⟨rfl, hw'.trans (hb.mono (below_le hw' (by simp)))⟩))); go_simp; (try go_bits); refine hK _ ?_; clear hK K)
  first | (refine flow_skip rfl (fun K hK => ?_); go_simp; (try go_bits); refine hK _ ?_; clear hK K) | (refine flow_quiet rfl rfl (fun K hK => ?_); apply Exists.intro; apply And.intro; (focus (intro w' hw'; have hc := (bcell hw').1; go_simp; (try go_bits); all_goals (go_at_call 35; with_reducible refine (c10 _).mono ?_; rintro e w2 ⟨rfl, hb⟩; exact ⟨rfl, hw'.trans (hb.mono (below_le hw' (by simp)))⟩))); go_simp; (try go_bits); refine hK _ ?_; clear hK K) | (refine flow_quiet rfl rfl (fun K hK => ?_); apply Exists.intro; apply And.intro; (focus (intro w' hw'; have hc := (bcell hw').1; go_simp; (try go_bits); all_goals (go_at_call 35; refine (c10 _).mono ?_; rintro e w2 ⟨rfl, hb⟩; exact ⟨rfl, hw'.trans (hb.mono (below_le hw' (by simp)))⟩))); go_simp; (try go_bits); refine hK _ ?_; clear hK K)
  first | (refine flow_skip rfl (fun K hK => ?_); go_simp; (try go_bits); refine hK _ ?_; clear hK K) | (refine flow_quiet rfl rfl (fun K hK => ?_); apply Exists.intro; apply And.intro; (focus (intro w' hw'; have hc := (bcell hw').1; go_simp; (try go_bits); all_goals (first | exact rfl | exact ⟨rfl, hw'⟩))); go_simp; (try go_bits); refine hK _ ?_; clear hK K)
  (refine flow_quiet rfl rfl (fun K hK => ?_); apply Exists.intro; apply And.intro; (focus (intro w' hw'; have hc := (bcell hw').1; go_simp; (try go_bits); all_goals (first | exact rfl | exact ⟨rfl, hw'⟩))); go_simp; (try go_bits); refine hK _ ?_; clear hK K)
  (refine flow_quiet rfl rfl (fun K hK => ?_); apply Exists.intro; apply And.intro; (focus (intro w' hw'; have hc := (bcell hw').1; go_simp; (try go_bits); all_goals (first | exact rfl | exact ⟨rfl, hw'⟩))); go_simp; (try go_bits); refine hK _ ?_; clear hK K)
  refine flow_nil ?_
  intro w' hw'
  have hc_w' := (bcell hw').1; have hf_w' := (bcell hw').2; have hz_w' : _ ≤ w'.heap.size := hw'.size; (try simp only [World.size_alloc, World.heap_drewN, World.size_setCell, heap_drew] at hc_w' hf_w' hz_w')
  go_wp2
  go_ret
  refine ⟨rfl, ?_⟩
  repeat (with_reducible first | exact Below.refl _ _ | assumption | refine below_drewN ?_ _ | refine Below.drew ?_ | refine Below.setCell ?_ (by first | omega | (simp; done) | (simp; omega)) _ | refine Below.alloc ?_ (by first | omega | (simp; done) | (simp; omega)) _ | refine Below.trans ?_ (Below.mono (by assumption) (by first | omega | (simp; done) | (simp; omega))))

set_option maxHeartbeats 2000000 in
theorem walk (a b : Nat) (ha : a < Q256) (hb : b < Q256) (w : World) :
    Calls Try.prog 12 #[W4 a, W4 b] w fun e w' => e = .returned (.bool true) ∧ Below w.heap.size w w' := by
  by_cases h0 : b = 0
  · have c1 := fun W => Div_any a b ha hb W
    have c2 := fun W => Mod_any a b ha hb W
    rw [show divW a b = b from by unfold divW; rw [if_pos h0, h0]] at c1
    rw [show modW a b = b from by unfold modW; rw [if_pos h0, h0]] at c2
    refine walkZ a b ?_ c1 c2 w
    subst h0
    decide +kernel
  · have hdl := divW_lt (b := b) ha
    have hml := modW_lt (b := b) ha
    have hsl := sdivW_lt (b := b) ha
    have htl := smodW_lt (b := b) ha
    have c5 := fun W => Less_any (modW a b) b hml hb W
    rw [below_parts h0] at c5
    have c7 := fun W => Add_any (divW a b * b % Q256) (modW a b) (Nat.mod_lt _ Q256_pos) hml W
    rw [whole_parts ha h0] at c7
    have c9 := fun W => Add_any (sdivW a b * b % Q256) (smodW a b) (Nat.mod_lt _ Q256_pos) htl W
    rw [signed_parts ha hb h0] at c9
    have c11 := fun W => MulMod_any (divW a b) b 0 hdl hb Q256_pos W
    rw [show mulmodW (divW a b) b 0 = 0 from by unfold mulmodW; rw [if_pos rfl]] at c11
    exact walkN a b _ _ _ _ _ _ 0 (nz_lb hb h0) (fun W => Div_any a b ha hb W) (fun W => Mod_any a b ha hb W) (fun W => SDiv_any a b ha hb W) (fun W => SMod_any a b ha hb W) c5 (fun W => Mul_any _ b hdl hb W) c7 (fun W => Mul_any _ b hsl hb W) c9 (fun W => Of_any 0 M64_pos W) c11 w

set_option maxRecDepth 100000 in
theorem lifted (os : Os) (started : os.Started) (H : Type) (enc : TypeId × Value → H) :
    ReturnsInHanded {} Try.checked os 12 .any (Rows.wordPartsSpec.pre6 enc Try.prog Try.f12 Rows.wordPartsRow.domain false) (Rows.wordPartsSpec.post enc Try.prog Try.f12 false true false false) := by
  refine returnsInHanded_of_change (C := Try.checked) own started (by kernel_rfl) Try.func12
    (ChangeSpec.witness6 (enc := enc) (C := Try.checked) false ⟨#[], #[.agg #[.int .u64 0, .int .u64 0, .int .u64 0, .int .u64 0], .agg #[.int .u64 0, .int .u64 0, .int .u64 0, .int .u64 0]], []⟩ 8 (by kernel_rfl) (by kernel_rfl) (by kernel_rfl) (by kernel_rfl)) ?_
  intro W base args ds gs before hval0 hW hcnd _
  have hval : ∀ (j : Nat) t v, Try.f12.params[j]? = some t → args[j]? = some v → Value.okWide Try.prog W .any base t v := hval0
  have hW' := hW
  obtain ⟨p, q, hA0, hV, rfl, hfz, hnd⟩ := hW
  have hA : DataW.TrodAll enc Try.prog W 0 (fun _ => true) true Try.f12.params.toList args.toList ds p := hA0
  rw [Try.params12] at hA hval
  obtain ⟨v0, vs0, d0, ds0, p0, q0, hargs, rfl, rfl, h0, r0⟩ := trodAll_cons hA
  obtain ⟨v1, vs1, d1, ds1, p1, q1, rfl, rfl, rfl, h1, r1⟩ := trodAll_cons r0
  obtain ⟨rfl, rfl, rfl⟩ := trodAll_nil r1
  obtain rfl : args = #[v0, v1] := by cases args; simp_all
  obtain ⟨rfl, rfl⟩ := trodVars_none hV
  have k0 := h0
  have lt0 : ∀ x ∈ p0, x.block < W.heap.size := by obtain ⟨m, hm⟩ := k0; exact DataW.trod_lt m _ _ _ hm
  obtain ⟨a0, w0, rfl⟩ := open_word (hval 0 24 v0 rfl rfl) h0
  have k1 := h1
  have lt1 : ∀ x ∈ p1, x.block < W.heap.size := by obtain ⟨m, hm⟩ := k1; exact DataW.trod_lt m _ _ _ hm
  obtain ⟨a1, w1, rfl⟩ := open_word (hval 1 24 v1 rfl rfl) h1
  clear hA0 hval0
  refine (walk a0 a1 w0 w1 W).mono fun e W' ⟨he, bel⟩ => ?_
  subst he
  exact ⟨_, rfl, _, _, _, [], _, [], hW', trodAll_mk1 (shut_bool Try.underlying4 _), (trodAll_cons_mk (Below.trod laidOut (by kernel_rfl) (of_decide_eq_true (by kernel_rfl)) k0 bel lt0) (trodAll_cons_mk (Below.trod laidOut (by kernel_rfl) (of_decide_eq_true (by kernel_rfl)) k1 bel lt1) trodAll_mk0)), rfl, bel.frame _, fun h => by cases h⟩

theorem over : Rows.wordPartsRow.holds Try.pinned (OpenSpec.ofChange Rows.wordPartsSpec) :=
  OpenClaim.holds_of_wide 12 Try.f12 rfl rfl rfl rfl rfl rfl rfl ⟨rfl, rfl, rfl, rfl, rfl⟩ rfl rfl rfl rfl rfl (by kernel_rfl) Try.func12 (by kernel_rfl)
    (of_decide_eq_true (by kernel_rfl)) (by unfold Func.isWrapper; first | (rw [if_pos (by decide +kernel)]; kernel_rfl) | (rw [if_neg (by decide +kernel)]; exact ⟨rfl, rfl⟩))
    (fun os started H enc _ => lifted os started H enc)

theorem proved : Rows.WordPartsSaid := over
end Go.Proofs.Ytmegpggpndjjcaa.WordPartsDone
