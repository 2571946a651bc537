/-
  The contract of the document's AddMod. Conditions: none.
-/
import Derived.Test.YtmegpggpndjjcaaR4
import Derived.Test.YtmegpggpndjjcaaMods
import Derived.ArgAppend
namespace Go.Proofs.Ytmegpggpndjjcaa
open Go.RowKit
attribute [local go_sem] leftBy newBy eqW guardW
set_option linter.unusedSimpArgs false
set_option linter.unusedVariables false


/-- What stands for the three slices: one bit, 256 bits, 257 bits. -/
def three (c : Bool) (f g : Nat → Bool) (t : Tmp) (v : Value) (w : World) : Prop :=
  (t = 23 → isBits 1 (fun _ => c) v w) ∧ (t = 25 → isBits 256 f v w) ∧ (t = 26 → isBits 257 g v w)

theorem keeps_three {FR : List Tmp} {T : TypeId} {c : Bool} {f g : Nat → Bool} (h : T ≠ 4) : Keeps FR (fun _ => T) (three c f g) where
  below := fun t v w w' ⟨h1, h2, h3⟩ hb => ⟨fun e => (keeps_bits (FR := FR) h).below t v w w' (h1 e) hb, fun e => (keeps_bits (FR := FR) h).below t v w w' (h2 e) hb, fun e => (keeps_bits (FR := FR) h).below t v w w' (h3 e) hb⟩
  box := fun t v w b old cs d hd hbx ⟨h1, h2, h3⟩ => ⟨fun e => (keeps_bits h).box t v w b old cs d hd hbx (h1 e), fun e => (keeps_bits h).box t v w b old cs d hd hbx (h2 e), fun e => (keeps_bits h).box t v w b old cs d hd hbx (h3 e)⟩

/-- One bit ahead of others. -/
def ahead (c : Bool) (f : Nat → Bool) : Nat → Bool := fun k => if k = 0 then c else f (k - 1)
theorem ahead_list (c : Bool) (f : Nat → Bool) (n : Nat) : [Value.bool c] ++ bitL n f = bitL (n + 1) (ahead c f) := by
  unfold bitL ahead
  rw [List.range_succ_eq_map, List.map_cons, List.map_map]
  simp [Function.comp_def]

theorem bits_of_sum {a b : Nat} (ha : a < Q256) (hb : b < Q256) (j : Nat) (hj : j < 257) : ahead (decide (Q256 ≤ a + b)) (fun k => bitsOf ((a + b) % Q256) (255 - k)) j = (bitOf (a + b) (257 - 1 - j) == 1) := by
  unfold ahead
  by_cases h : j = 0
  · subst h
    rw [if_pos rfl]
    unfold bitOf
    rw [show 257 - 1 - 0 = 256 by rfl, ← Q256_pow]
    refine Bool.eq_iff_iff.2 ?_
    simp only [decide_eq_true_iff, beq_iff_eq]
    unfold Q256 at *
    omega
  · rw [if_neg h]
    have e : 255 - (j - 1) = 257 - 1 - j := by omega
    show bitsOf ((a + b) % Q256) (255 - (j - 1)) = _
    rw [e]
    unfold bitsOf bitOf
    have h1 : 257 - 1 - j < 256 := by omega
    generalize 257 - 1 - j = k at *
    have : (a + b) % Q256 / 2 ^ k % 2 = (a + b) / 2 ^ k % 2 := by
      rw [Q256_pow, pow_split k 256 (by omega), Nat.mod_mul_right_div_self, Nat.mod_mod_of_dvd _ ⟨2 ^ (255 - k), by rw [Nat.mul_comm, ← Nat.pow_succ, show (255 - k).succ = 256 - k by omega]⟩]
    rw [this]

theorem sum_lt257 {a b : Nat} (ha : a < Q256) (hb : b < Q256) : a + b < 2 ^ 257 := by
  have : Q256 + Q256 = 2 ^ 257 := by decide +kernel
  omega

/-- The append of 256 bits onto one. -/
theorem append_bits {c : Bool} {f : Nat → Bool} {w : World} {ty : TypeId} {bo g cap : Nat} (h1 : bitRow w bo 1 (fun _ => c)) (h2 : bitRow w g 256 f) :
    ∃ g' cap' w2, (Builtin.append_ #[43, 43] ty #[.slice (some ⟨bo, 0, none⟩) 1 1, .slice (some ⟨g, 0, none⟩) 256 cap]).run Try.prog w = .ok (.slice (some ⟨g', 0, none⟩) 257 cap') w2 ∧ Below w.heap.size w w2 ∧ bitRow w2 g' 257 (ahead c f) := by
  obtain ⟨i0, hi, hz0, hz1, hz2⟩ := info_parts infoB
  have hadd : ∀ q j : Nat, (⟨q, 0, none⟩ : Addr).add j = ⟨q, j, none⟩ := fun q j => by unfold Addr.add; split <;> simp_all
  obtain ⟨v', w2, hrun, hown, hg⟩ := run_append_arg_grows (P := Try.prog) w 43 ty 4 i0 (.bool false) 1 1 Try.underlying43 hi hz0 hz1 hz2 rfl (by decide) ⟨bo, 0, none⟩ 1 1 [.bool c] rfl
    (fun j u hu => by
      have : j = 0 := by
        have := (List.getElem?_eq_some_iff.1 hu).1
        simpa using this
      subst this
      simp at hu
      subst hu
      rw [hadd]
      exact h1.cellAt (by decide))
    ⟨g, 0, none⟩ 256 cap (bitL 256 f) (by simp [bitL]) (fun j u hu => by
      have hj : j < 256 := by
        have := (List.getElem?_eq_some_iff.1 hu).1
        simpa [bitL] using this
      have h3 : (bitL 256 f)[j]? = some (.bool (f j)) := by simp [bitL, hj]
      rw [h3] at hu
      injection hu with hu
      subst hu
      rw [hadd]
      exact h2.cellAt hj)
    (by omega) (by decide) (by decide)
  rw [ahead_list] at hown
  obtain ⟨g', cap', rfl, _, _, hb⟩ := owns_bitRow hown (by decide)
  exact ⟨g', cap', w2, hrun, (Below.refl _ _).grown hg (Nat.le_refl _) (fun k hk => by cases hk), hb⟩

theorem exec_append {A : Act} {w w2 : World} {x y v : Value} {d : Option Tmp} {ty : TypeId} {pos : String} {after : Array Edge} (h1 : A.tmps.getD 23 undef = x) (h2 : A.tmps.getD 25 undef = y) (hr : (Builtin.append_ #[43, 43] ty #[x, y]).run Try.prog w = .ok v w2) :
    (execOp A.eval ⟨d, .call { callee := .builtin .append, args := #[.tmp 23, .tmp 25], argTypes := #[43, 43] }, ty, pos, after, none⟩).run Try.prog w = .ok (.value v) w2 := by
  unfold execOp
  simp only [resolve, invoke, builtin, Sem.run_bind, Sem.run_pure, Result.andThen_ok, List.map_toArray, List.map_cons, List.map_nil, Act.eval, h1, h2, hr]

theorem three_23 {c : Bool} {f g : Nat → Bool} {v : Value} {w : World} (h : three c f g 23 v w) : isBits 1 (fun _ => c) v w := h.1 rfl
theorem three_25 {c : Bool} {f g : Nat → Bool} {v : Value} {w : World} (h : three c f g 25 v w) : isBits 256 f v w := h.2.1 rfl
theorem three_26 {c : Bool} {f g : Nat → Bool} {v : Value} {w : World} (h : three c f g 26 v w) : isBits 257 g v w := h.2.2 rfl
theorem to_23 {c : Bool} {f g : Nat → Bool} {v : Value} {w : World} (h : isBits 1 (fun _ => c) v w) : three c f g 23 v w := ⟨(fun _ => h), (fun e => absurd e (by decide)), (fun e => absurd e (by decide))⟩
theorem to_25 {c : Bool} {f g : Nat → Bool} {v : Value} {w : World} (h : isBits 256 f v w) : three c f g 25 v w := ⟨(fun e => absurd e (by decide)), (fun _ => h), (fun e => absurd e (by decide))⟩
theorem to_26 {c : Bool} {f g : Nat → Bool} {v : Value} {w : World} (h : isBits 257 g v w) : three c f g 26 v w := ⟨(fun e => absurd e (by decide)), (fun e => absurd e (by decide)), (fun _ => h)⟩
theorem one_new {c : Bool} {f g : Nat → Bool} {W : World} : three c f g 23 (.slice (some ⟨W.heap.size, 0, none⟩) 1 1) (W.alloc (.cells #[.bool c] 4 (0, 0))) :=
  to_23 ⟨_, _, rfl, _, heap_new rfl, fun j hj => by have : j = 0 := (by omega); subst this; rfl⟩

attribute [local irreducible] lb divW modW addmodW bitsOf bitOf ahead three

set_option maxRecDepth 100000 in
set_option maxHeartbeats 8000000 in
theorem ref_AddMod (a b m : Nat) (ha : a < Q256) (hb : b < Q256) (hm : m < Q256) (w : World) :
    Calls Try.prog 42 #[W4 a, W4 b, W4 m] w fun e w' => e = .returned (W4 (addmodW a b m)) ∧ Below w.heap.size w w' := by
  by_cases h0 : m = 0
  · subst h0
    rw [show addmodW a b 0 = 0 from by unfold addmodW; rw [if_pos rfl], W4_zero]
    go_enter Try.func42, Try.ntmps42
    go_wp2
    refine bodyPost_ret (by simp only [results, Try.results42]; go_simp) rfl ⟨rfl, ?_⟩
    repeat (with_reducible first | exact Below.refl _ _ | assumption | refine below_drewN ?_ _ | refine Below.drew ?_ | refine Below.setCell ?_ (by first | omega | (simp; done) | (simp; omega)) _ | refine Below.alloc ?_ (by first | omega | (simp; done) | (simp; omega)) _ | refine Below.trans ?_ (Below.mono (by assumption) (by first | omega | (simp; done) | (simp; omega))))
  · have hz := nz_lb hm h0
    have hd : addmodW a b m = (a + b) % m := by unfold addmodW; rw [if_neg h0]
    rw [hd]
    have hD : ∀ g cap W, bitRow W g 257 (ahead (decide (Q256 ≤ a + b)) (fun k => bitsOf ((a + b) % Q256) (255 - k))) → Calls Try.prog 58 #[.slice (some ⟨g, 0, none⟩) 257 cap, W4 m] W fun e w2 => e = .returned (.tuple #[W4 ((a + b) / m % Q256), W4 ((a + b) % m)]) ∧ Below W.heap.size W w2 := fun g cap W hW =>
      ref_divided g cap 257 m (a + b) (by decide) (Nat.pos_of_ne_zero h0) hm (sum_lt257 ha hb) W (hW.to (bits_of_sum ha hb))
    have c1 := fun W => ref_carry a b ha hb W
    have hH := ref_high ((a + b) % Q256) (Nat.mod_lt _ Q256_pos)
    generalize decide (Q256 ≤ a + b) = c at *
    generalize (a + b) / m % Q256 = q at *
    generalize (a + b) % m = r at *
    generalize (a + b) % Q256 = s at *
    clear hd h0
    go_enter Try.func42, Try.ntmps42
    go_wp2_with (go_at_call 64; with_reducible refine (c1 _).mono ?_; rintro e wa ⟨rfl, hb_wa⟩; have hc_wa := (bcell hb_wa).1; have hf_wa := (bcell hb_wa).2; have hz_wa : _ ≤ wa.heap.size := hb_wa.size; (try simp only [World.size_alloc, World.heap_drewN, World.size_setCell, heap_drew] at hc_wa hf_wa hz_wa); have hz_wa_w_0 : w.heap.size < wa.heap.size := (by omega); have hz_wa_w_1 : w.heap.size + 1 < wa.heap.size := (by omega); have hz_wa_w_2 : w.heap.size + 1 + 1 < wa.heap.size := (by omega); have hz_wa_w_3 : w.heap.size + 1 + 1 + 1 < wa.heap.size := (by omega))
    have hs7 : wa.heap.size < wa.heap.size + 1 := Nat.lt_succ_self _
    have hKeep : Keeps [9, 10] (fun _ => 24) ((three c (fun j => bitsOf s (255 - j)) (ahead c (fun j => bitsOf s (255 - j))))) := keeps_three (by decide)
    refine wp_flowM (fun k => ([1, 3, 1, 3, 3, 1, 1, 1, 1, 0, 3, 3, 2, 2] : List Nat).getD k 1) [9, 10] (fun _ => 24) [23, 25, 26] ((three c (fun j => bitsOf s (255 - j)) (ahead c (fun j => bitsOf s (255 - j))))) (fun k => if k = 1 then (fun v => ∃ g, v = .slice (some ⟨g, 0, none⟩) 1 1) else if k = 3 then (fun v => ∃ g cap, v = .slice (some ⟨g, 0, none⟩) 256 cap) else if k = 4 then (fun v => ∃ g cap, v = .slice (some ⟨g, 0, none⟩) 257 cap) else isBox (wa.heap.size + 1)) (fun k => ([.bool c, undef, W4 s, undef, undef, W4 m, .tuple #[W4 q, W4 r], .tuple #[W4 q, W4 r], W4 q, W4 r, undef, undef, undef, undef] : List Value).getD k undef) (fun _ => #[.int .u64 0, .int .u64 0, .int .u64 0, .int .u64 0]) (wa.heap.size + 1) ?_ ?_ (by kernel_rfl) (by kernel_rfl) ?_ ?_
    focus (intro d hd; simp only [List.mem_cons, List.not_mem_nil, or_false] at hd; rcases hd with rfl | rfl <;> rfl)
    focus (intro d hd; simp only [List.mem_cons, List.not_mem_nil, or_false] at hd; rcases hd with rfl | rfl | rfl <;> rfl)
    focus (intro k; show ∃ v, (if k = 1 then (fun v => ∃ g, v = .slice (some ⟨g, 0, none⟩) 1 1) else if k = 3 then (fun v => ∃ g cap, v = .slice (some ⟨g, 0, none⟩) 256 cap) else if k = 4 then (fun v => ∃ g cap, v = .slice (some ⟨g, 0, none⟩) 257 cap) else isBox (wa.heap.size + 1)) v; split; (focus (exact ⟨_, 0, rfl⟩)); (split; (focus (exact ⟨_, 0, 0, rfl⟩)); (split; (focus (exact ⟨_, 0, 0, rfl⟩)); (focus (exact ⟨_, _, Nat.le_refl _, rfl⟩)))))
    (refine flowM_quiet rfl hKeep (by first | exact Nat.le_refl _ | (simp only [World.size_alloc]; omega) | omega) rfl rfl rfl (fun K hK => ⟨?_, ?_⟩); (focus (intro w' hw' hsee; clear hsee; have hc := (bcell hw').1; go_simp; (try go_bits); all_goals (first | exact ⟨rfl, Below.refl _ _⟩ | exact Below.refl _ _))); go_simp; (try go_bits); refine hK _ ?_; clear hK K)
    (refine flowM_any rfl hKeep (by first | exact Nat.le_refl _ | (simp only [World.size_alloc]; omega) | omega) rfl (fun K hK => ⟨?_, ?_⟩); (focus (intro w' hw' hsee; have hc := (bcell hw').1; clear hsee; go_simp; first | exact ⟨⟨_, rfl⟩, (Below.refl _ _).alloc (Nat.le_refl _) _, one_new⟩ | exact ⟨(Below.refl _ _).alloc (Nat.le_refl _) _, one_new⟩)); (rintro v ⟨g1, rfl⟩; go_simp; (try go_bits); refine hK _ ?_; clear hK K))
    (refine flowM_quiet rfl hKeep (by first | exact Nat.le_refl _ | (simp only [World.size_alloc]; omega) | omega) rfl rfl rfl (fun K hK => ⟨?_, ?_⟩); (focus (intro w' hw' hsee; clear hsee; have hc := (bcell hw').1; go_simp; (try go_bits); all_goals (first | exact ⟨rfl, Below.refl _ _⟩ | exact Below.refl _ _))); go_simp; (try go_bits); refine hK _ ?_; clear hK K)
    (refine flowM_any rfl hKeep (by first | exact Nat.le_refl _ | (simp only [World.size_alloc]; omega) | omega) rfl (fun K hK => ⟨?_, ?_⟩); (focus (intro w' hw' hsee; have hc := (bcell hw').1; clear hsee; go_simp; all_goals (go_at_call 59; refine (hH _).mono ?_; rintro e w2 ⟨g, cap, rfl, hg, hcap, hrow, hb⟩; exact ⟨_, rfl, ⟨g, cap, rfl⟩, hb, to_25 ⟨g, cap, rfl, hrow⟩⟩))); (rintro v ⟨g2, cp2, rfl⟩; go_simp; (try go_bits); refine hK _ ?_; clear hK K))
    (refine flowM_any rfl hKeep (by first | exact Nat.le_refl _ | (simp only [World.size_alloc]; omega) | omega) rfl (fun K hK => ⟨?_, ?_⟩); (focus (intro w' hw' hsee; have hc := (bcell hw').1; rcases hsee 23 (by simp) (of_decide_eq_true (by kernel_rfl)) with hs | hs; exact absurd hs (by intro hs; cases hs); obtain ⟨b1, k1, hv1, hr1⟩ := three_23 hs; obtain ⟨rfl, rfl⟩ : g1 = b1 ∧ 1 = k1 := (by simpa using hv1); rcases hsee 25 (by simp) (of_decide_eq_true (by kernel_rfl)) with hs | hs; exact absurd hs (by intro hs; cases hs); obtain ⟨b2, k2, hv2, hr2⟩ := three_25 hs; obtain ⟨rfl, rfl⟩ : g2 = b2 ∧ cp2 = k2 := (by simpa using hv2); obtain ⟨g4, cp4, w2, hrun, hbel, hrow⟩ := append_bits (ty := 43) hr1 hr2; rw [exec_append rfl rfl hrun]; exact ⟨⟨g4, cp4, rfl⟩, hbel, to_26 ⟨g4, cp4, rfl, hrow⟩⟩)); (rintro v ⟨g3, cp3, rfl⟩; go_simp; (try go_bits); refine hK _ ?_; clear hK K))
    (refine flowM_quiet rfl hKeep (by first | exact Nat.le_refl _ | (simp only [World.size_alloc]; omega) | omega) rfl rfl rfl (fun K hK => ⟨?_, ?_⟩); (focus (intro w' hw' hsee; clear hsee; have hc := (bcell hw').1; go_simp; (try go_bits); all_goals (first | exact ⟨rfl, Below.refl _ _⟩ | exact Below.refl _ _))); go_simp; (try go_bits); refine hK _ ?_; clear hK K)
    first | (refine flowM_quiet rfl hKeep (by first | exact Nat.le_refl _ | (simp only [World.size_alloc]; omega) | omega) rfl rfl rfl (fun K hK => ⟨?_, ?_⟩); (focus (intro w' hw' hsee; have hc := (bcell hw').1; rcases hsee 26 (by simp) (of_decide_eq_true (by kernel_rfl)) with hs | hs; exact absurd hs (by intro hs; cases hs); obtain ⟨g', cp', hv', hrow⟩ := (three_26 hs); obtain ⟨rfl, rfl⟩ : g3 = g' ∧ cp3 = cp' := (by simpa using hv'); clear hsee; go_simp; all_goals (go_at_call 58; with_reducible refine (hD _ _ _ hrow).mono ?_; rintro e w2 ⟨rfl, hb⟩; exact ⟨rfl, hb⟩))); go_simp; (try go_bits); refine hK _ ?_; clear hK K) | (refine flowM_quiet rfl hKeep (by first | exact Nat.le_refl _ | (simp only [World.size_alloc]; omega) | omega) rfl rfl rfl (fun K hK => ⟨?_, ?_⟩); (focus (intro w' hw' hsee; have hc := (bcell hw').1; rcases hsee 26 (by simp) (of_decide_eq_true (by kernel_rfl)) with hs | hs; exact absurd hs (by intro hs; cases hs); obtain ⟨g', cp', hv', hrow⟩ := (three_26 hs); obtain ⟨rfl, rfl⟩ : g3 = g' ∧ cp3 = cp' := (by simpa using hv'); clear hsee; go_simp; all_goals (go_at_call 58; refine (hD _ _ _ hrow).mono ?_; rintro e w2 ⟨rfl, hb⟩; exact ⟨rfl, hb⟩))); go_simp; (try go_bits); refine hK _ ?_; clear hK K)
    (refine flowM_quiet rfl hKeep (by first | exact Nat.le_refl _ | (simp only [World.size_alloc]; omega) | omega) rfl rfl rfl (fun K hK => ⟨?_, ?_⟩); (focus (intro w' hw' hsee; clear hsee; have hc := (bcell hw').1; go_simp; (try go_bits); all_goals (first | exact ⟨rfl, Below.refl _ _⟩ | exact Below.refl _ _))); go_simp; (try go_bits); refine hK _ ?_; clear hK K)
    (refine flowM_quiet rfl hKeep (by first | exact Nat.le_refl _ | (simp only [World.size_alloc]; omega) | omega) rfl rfl rfl (fun K hK => ⟨?_, ?_⟩); (focus (intro w' hw' hsee; clear hsee; have hc := (bcell hw').1; go_simp; (try go_bits); all_goals (first | exact ⟨rfl, Below.refl _ _⟩ | exact Below.refl _ _))); go_simp; (try go_bits); refine hK _ ?_; clear hK K)
    (refine flowM_late rfl rfl (fun K hK => ⟨?_, ?_⟩); (focus (intro w' hw'; have hc := (bcell hw').1; go_simp; done)); go_simp; (try go_bits); refine hK _ ?_; clear hK K)
    (refine flowM_new rfl rfl hKeep (by first | exact Nat.le_refl _ | (simp only [World.size_alloc]; omega) | omega) rfl (fun a w' => ?_) (fun K hK bx hbx => ?_); (focus (go_simp; done)); go_simp; (try go_bits); refine hK _ ?_; clear hK K)
    (refine flowM_new rfl rfl hKeep (by first | exact Nat.le_refl _ | (simp only [World.size_alloc]; omega) | omega) rfl (fun a w' => ?_) (fun K hK bx hbx => ?_); (focus (go_simp; done)); go_simp; (try go_bits); refine hK _ ?_; clear hK K)
    (refine flowM_store _ _ rfl rfl hKeep (by simp) rfl rfl (by kernel_rfl) rfl (by first | rfl | simp [Value.oneCell']) ?_; (try simp only [Act.put]))
    (refine flowM_store _ _ rfl rfl hKeep (by simp) rfl rfl (by kernel_rfl) rfl (by first | rfl | simp [Value.oneCell']) ?_; (try simp only [Act.put]))
    refine flowM_nil ?_
    intro w' hw'
    obtain ⟨z5, r5⟩ := box_word (d := 10) (n := r) hw'.1 (by simp) rfl (by simp [updS]) rfl
    obtain ⟨q0, q1, q2, q3, qf⟩ := r5.cells
    obtain ⟨⟨hb_w2, _⟩, _⟩ := hw'
    have hc_w' := (bcell hb_w2).1; have hf_w' := (bcell hb_w2).2; have hz_w' : _ ≤ w'.heap.size := hb_w2.size; (try simp only [World.size_alloc, World.heap_drewN, World.size_setCell, heap_drew] at hc_w' hf_w' hz_w'); have hz_w'_w_0 : w.heap.size < w'.heap.size := (by omega); have hz_w'_w_1 : w.heap.size + 1 < w'.heap.size := (by omega); have hz_w'_w_2 : w.heap.size + 1 + 1 < w'.heap.size := (by omega); have hz_w'_w_3 : w.heap.size + 1 + 1 + 1 < w'.heap.size := (by omega)
    clear hD hH hKeep r5
    go_wp2
    refine bodyPost_ret (by simp only [results, Try.results42]; go_simp) rfl ⟨rfl, ?_⟩
    repeat (with_reducible first | exact Below.refl _ _ | assumption | refine below_drewN ?_ _ | refine Below.drew ?_ | refine Below.setCell ?_ (by first | omega | (simp; done) | (simp; omega)) _ | refine Below.alloc ?_ (by first | omega | (simp; done) | (simp; omega)) _ | refine Below.trans ?_ (Below.mono (by assumption) (by first | omega | (simp; done) | (simp; omega))))
end Go.Proofs.Ytmegpggpndjjcaa
