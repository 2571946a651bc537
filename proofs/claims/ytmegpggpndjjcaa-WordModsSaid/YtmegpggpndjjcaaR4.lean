/-
  Contracts of the document's quotients and remainders, also with signs; and of word.SMod. Conditions: none.
-/
import Derived.Test.YtmegpggpndjjcaaR3
import Derived.Test.YtmegpggpndjjcaaFlow4
import Derived.Test.YtmegpggpndjjcaaW3
namespace Go.Proofs.Ytmegpggpndjjcaa
open Go.RowKit
attribute [local go_sem] leftBy newBy eqW guardW
set_option linter.unusedSimpArgs false
set_option linter.unusedVariables false


/-- What a slice of n bits is known by. -/
def isBits (n : Nat) (f : Nat → Bool) (v : Value) (w : World) : Prop := ∃ g cap, v = .slice (some ⟨g, 0, none⟩) n cap ∧ bitRow w g n f

theorem keeps_bits {FR : List Tmp} {T : TypeId} {n : Nat} {f : Nat → Bool} (h : T ≠ 4) : Keeps FR (fun _ => T) (fun _ => isBits n f) where
  below := fun t v w w' ⟨g, cap, hv, hr⟩ hb => ⟨g, cap, hv, hr.below hb hr.lt⟩
  box := fun t v w b old cs d _ hbx ⟨g, cap, hv, cur, hr, hc⟩ => ⟨g, cap, hv, cur, (setRow_other w b g cs fun e => by
    rw [e, hbx] at hr
    injection hr with hr
    injection hr with _ hr
    exact h hr).trans hr, hc⟩

theorem bits_lt {a : Nat} (ha : a < Q256) : a < 2 ^ 256 := by rw [← Q256_pow]; exact ha

/-- Signed remainder. -/
def smodW (a b : Nat) : Nat := tnd (modW (tnd a (negB a)) (tnd b (negB b))) (negB a)

theorem smodW_lt {a b : Nat} (ha : a < Q256) : smodW a b < Q256 := tnd_lt (modW_lt (tnd_lt ha _)) _

attribute [local irreducible] lb tnd ltB negB divW modW bitsOf

set_option maxRecDepth 100000 in
set_option maxHeartbeats 4000000 in
theorem ref_Div (a b : Nat) (ha : a < Q256) (hb : b < Q256) (w : World) :
    Calls Try.prog 19 #[W4 a, W4 b] w fun e w' => e = .returned (W4 (divW a b)) ∧ Below w.heap.size w w' := by
  by_cases h0 : b = 0
  · subst h0
    rw [show divW a 0 = 0 from by unfold divW; rw [if_pos rfl], W4_zero]
    go_enter Try.func19, Try.ntmps19
    go_wp2
    refine bodyPost_ret (by simp only [results, Try.results19]; go_simp) rfl ⟨rfl, ?_⟩
    repeat (with_reducible first | exact Below.refl _ _ | assumption | refine below_drewN ?_ _ | refine Below.drew ?_ | refine below_setRow' ?_ (by first | omega | (simp; done) | (simp; omega)) _ | refine Below.setCell ?_ (by first | omega | (simp; done) | (simp; omega)) _ | refine Below.alloc ?_ (by first | omega | (simp; done) | (simp; omega)) _ | refine Below.trans ?_ (Below.mono (by assumption) (by first | omega | (simp; done) | (simp; omega))))
  · have hz := nz_lb hb h0
    have hd : divW a b = a / b := by unfold divW; rw [if_neg h0]
    rw [hd]
    have hm : a / b % Q256 = a / b := Nat.mod_eq_of_lt (Nat.lt_of_le_of_lt (Nat.div_le_self _ _) ha)
    have hD : ∀ g cap W, bitRow W g 256 (fun j => bitsOf a (255 - j)) → Calls Try.prog 58 #[.slice (some ⟨g, 0, none⟩) 256 cap, W4 b] W fun e w2 => e = .returned (.tuple #[W4 (a / b), W4 (a % b)]) ∧ Below W.heap.size W w2 := fun g cap W hW => by
      rw [← hm]
      refine ref_divided g cap 256 b a (by omega) (by omega) hb (bits_lt ha) W (hW.to fun j hj => ?_)
      unfold bitsOf
      rw [show 256 - 1 - j = 255 - j by omega]
    have hH := ref_high a ha
    clear hm h0
    generalize hq : a / b = q at hD ⊢
    generalize hr : a % b = r at hD ⊢
    clear hq hr
    go_enter Try.func19, Try.ntmps19
    go_wp2
    have hKeep : Keeps [5, 6] (fun _ => 24) (fun _ => (isBits 256 (fun j => bitsOf a (255 - j)))) := keeps_bits (by decide)
    refine wp_flowM (fun k => ([1, 3, 1, 1, 1, 1, 0, 3, 3, 2, 2] : List Nat).getD k 1) [5, 6] (fun _ => 24) [13] (fun _ => (isBits 256 (fun j => bitsOf a (255 - j)))) (fun k => if k = 1 then (fun v => ∃ g cap, v = .slice (some ⟨g, 0, none⟩) 256 cap) else isBox (w.heap.size + 3)) (fun k => ([W4 a, undef, W4 b, .tuple #[W4 q, W4 r], .tuple #[W4 q, W4 r], W4 q, W4 r, undef, undef, undef, undef] : List Value).getD k undef) (fun _ => #[.int .u64 0, .int .u64 0, .int .u64 0, .int .u64 0]) (w.heap.size + 3) ?_ ?_ (by kernel_rfl) (by kernel_rfl) ?_ ?_
    focus (intro d hd; simp only [List.mem_cons, List.not_mem_nil, or_false] at hd; rcases hd with rfl | rfl <;> rfl)
    focus (intro d hd; simp only [List.mem_cons, List.not_mem_nil, or_false] at hd; subst hd; rfl)
    focus (intro i; show ∃ v, (if i = 1 then (fun v => ∃ g cap, v = .slice (some ⟨g, 0, none⟩) 256 cap) else isBox (w.heap.size + 3)) v; split; (focus (exact ⟨_, 0, 0, rfl⟩)); (focus (exact ⟨_, _, Nat.le_refl _, rfl⟩)))
    (refine flowM_quiet rfl hKeep (by first | exact Nat.le_refl _ | (simp only [World.size_alloc]; omega) | omega) rfl rfl rfl (fun K hK => ⟨?_, ?_⟩); (focus (intro w' hw' hsee; clear hsee; have hc := (bcell hw').1; go_simp; (try go_bits); all_goals (first | exact ⟨rfl, Below.refl _ _⟩ | exact Below.refl _ _))); go_simp; (try go_bits); refine hK _ ?_; clear hK K)
    (refine flowM_any rfl hKeep (by first | exact Nat.le_refl _ | (simp only [World.size_alloc]; omega) | omega) rfl (fun K hK => ⟨?_, ?_⟩); (focus (intro w' hw' hsee; clear hsee; have hc := (bcell hw').1; go_simp; all_goals (go_at_call 59; refine (hH _).mono ?_; rintro e w2 ⟨g, cap, rfl, hg, hcap, hrow, hb⟩; exact ⟨_, rfl, ⟨g, cap, rfl⟩, hb, g, cap, rfl, hrow⟩))); (rintro v ⟨g, cap, rfl⟩; go_simp; (try go_bits); refine hK _ ?_; clear hK K))
    (refine flowM_quiet rfl hKeep (by first | exact Nat.le_refl _ | (simp only [World.size_alloc]; omega) | omega) rfl rfl rfl (fun K hK => ⟨?_, ?_⟩); (focus (intro w' hw' hsee; clear hsee; have hc := (bcell hw').1; go_simp; (try go_bits); all_goals (first | exact ⟨rfl, Below.refl _ _⟩ | exact Below.refl _ _))); go_simp; (try go_bits); refine hK _ ?_; clear hK K)
    first | (refine flowM_quiet rfl hKeep (by first | exact Nat.le_refl _ | (simp only [World.size_alloc]; omega) | omega) rfl rfl rfl (fun K hK => ⟨?_, ?_⟩); (focus (intro w' hw' hsee; have hc := (bcell hw').1; rcases hsee 13 (by simp) (of_decide_eq_true (by kernel_rfl)) with hs | ⟨g', cap', hv', hrow⟩; exact absurd hs (by intro hs; cases hs); obtain ⟨rfl, rfl⟩ : g = g' ∧ cap = cap' := (by simpa using hv'); clear hsee; go_simp; all_goals (go_at_call 58; with_reducible refine (hD _ _ _ hrow).mono ?_; rintro e w2 ⟨rfl, hb⟩; exact ⟨rfl, hb⟩))); go_simp; (try go_bits); refine hK _ ?_; clear hK K) | (refine flowM_quiet rfl hKeep (by first | exact Nat.le_refl _ | (simp only [World.size_alloc]; omega) | omega) rfl rfl rfl (fun K hK => ⟨?_, ?_⟩); (focus (intro w' hw' hsee; have hc := (bcell hw').1; rcases hsee 13 (by simp) (of_decide_eq_true (by kernel_rfl)) with hs | ⟨g', cap', hv', hrow⟩; exact absurd hs (by intro hs; cases hs); obtain ⟨rfl, rfl⟩ : g = g' ∧ cap = cap' := (by simpa using hv'); clear hsee; go_simp; all_goals (go_at_call 58; refine (hD _ _ _ hrow).mono ?_; rintro e w2 ⟨rfl, hb⟩; exact ⟨rfl, hb⟩))); go_simp; (try go_bits); refine hK _ ?_; clear hK K)
    (refine flowM_quiet rfl hKeep (by first | exact Nat.le_refl _ | (simp only [World.size_alloc]; omega) | omega) rfl rfl rfl (fun K hK => ⟨?_, ?_⟩); (focus (intro w' hw' hsee; clear hsee; have hc := (bcell hw').1; go_simp; (try go_bits); all_goals (first | exact ⟨rfl, Below.refl _ _⟩ | exact Below.refl _ _))); go_simp; (try go_bits); refine hK _ ?_; clear hK K)
    (refine flowM_quiet rfl hKeep (by first | exact Nat.le_refl _ | (simp only [World.size_alloc]; omega) | omega) rfl rfl rfl (fun K hK => ⟨?_, ?_⟩); (focus (intro w' hw' hsee; clear hsee; have hc := (bcell hw').1; go_simp; (try go_bits); all_goals (first | exact ⟨rfl, Below.refl _ _⟩ | exact Below.refl _ _))); go_simp; (try go_bits); refine hK _ ?_; clear hK K)
    (refine flowM_late rfl rfl (fun K hK => ⟨?_, ?_⟩); (focus (intro w' hw'; have hc := (bcell hw').1; go_simp; done)); go_simp; (try go_bits); refine hK _ ?_; clear hK K)
    (refine flowM_new rfl rfl hKeep (by first | exact Nat.le_refl _ | (simp only [World.size_alloc]; omega) | omega) rfl (fun a w' => ?_) (fun K hK bx hbx => ?_); (focus (go_simp; done)); go_simp; (try go_bits); refine hK _ ?_; clear hK K)
    (refine flowM_new rfl rfl hKeep (by first | exact Nat.le_refl _ | (simp only [World.size_alloc]; omega) | omega) rfl (fun a w' => ?_) (fun K hK bx hbx => ?_); (focus (go_simp; done)); go_simp; (try go_bits); refine hK _ ?_; clear hK K)
    (refine flowM_store _ _ rfl rfl hKeep (by simp) rfl rfl (by kernel_rfl) rfl (by first | rfl | simp [Value.oneCell']) ?_; (try simp only [Act.put]))
    (refine flowM_store _ _ rfl rfl hKeep (by simp) rfl rfl (by kernel_rfl) rfl (by first | rfl | simp [Value.oneCell']) ?_; (try simp only [Act.put]))
    refine flowM_nil ?_
    intro w' hw'
    obtain ⟨z5, r5⟩ := box_word (d := 5) (n := q) hw'.1 (by simp) rfl (by simp [updS]) rfl
    obtain ⟨q0, q1, q2, q3, qf⟩ := r5.cells
    obtain ⟨⟨hb_w2, _⟩, _⟩ := hw'
    have hc_w' := (bcell hb_w2).1; have hf_w' := (bcell hb_w2).2; have hz_w' : _ ≤ w'.heap.size := hb_w2.size; (try simp only [World.size_alloc, World.heap_drewN, World.size_setCell, heap_drew] at hc_w' hf_w' hz_w')
    clear hD hH hKeep
    go_wp2
    refine bodyPost_ret (by simp only [results, Try.results19]; go_simp) rfl ⟨rfl, ?_⟩
    repeat (with_reducible first | exact Below.refl _ _ | assumption | refine below_drewN ?_ _ | refine Below.drew ?_ | refine below_setRow' ?_ (by first | omega | (simp; done) | (simp; omega)) _ | refine Below.setCell ?_ (by first | omega | (simp; done) | (simp; omega)) _ | refine Below.alloc ?_ (by first | omega | (simp; done) | (simp; omega)) _ | refine Below.trans ?_ (Below.mono (by assumption) (by first | omega | (simp; done) | (simp; omega))))
set_option maxRecDepth 100000 in
set_option maxHeartbeats 4000000 in
theorem ref_Mod (a b : Nat) (ha : a < Q256) (hb : b < Q256) (w : World) :
    Calls Try.prog 21 #[W4 a, W4 b] w fun e w' => e = .returned (W4 (modW a b)) ∧ Below w.heap.size w w' := by
  by_cases h0 : b = 0
  · subst h0
    rw [show modW a 0 = 0 from by unfold modW; rw [if_pos rfl], W4_zero]
    go_enter Try.func21, Try.ntmps21
    go_wp2
    refine bodyPost_ret (by simp only [results, Try.results21]; go_simp) rfl ⟨rfl, ?_⟩
    repeat (with_reducible first | exact Below.refl _ _ | assumption | refine below_drewN ?_ _ | refine Below.drew ?_ | refine below_setRow' ?_ (by first | omega | (simp; done) | (simp; omega)) _ | refine Below.setCell ?_ (by first | omega | (simp; done) | (simp; omega)) _ | refine Below.alloc ?_ (by first | omega | (simp; done) | (simp; omega)) _ | refine Below.trans ?_ (Below.mono (by assumption) (by first | omega | (simp; done) | (simp; omega))))
  · have hz := nz_lb hb h0
    have hd : modW a b = a % b := by unfold modW; rw [if_neg h0]
    rw [hd]
    have hm : a / b % Q256 = a / b := Nat.mod_eq_of_lt (Nat.lt_of_le_of_lt (Nat.div_le_self _ _) ha)
    have hD : ∀ g cap W, bitRow W g 256 (fun j => bitsOf a (255 - j)) → Calls Try.prog 58 #[.slice (some ⟨g, 0, none⟩) 256 cap, W4 b] W fun e w2 => e = .returned (.tuple #[W4 (a / b), W4 (a % b)]) ∧ Below W.heap.size W w2 := fun g cap W hW => by
      rw [← hm]
      refine ref_divided g cap 256 b a (by omega) (by omega) hb (bits_lt ha) W (hW.to fun j hj => ?_)
      unfold bitsOf
      rw [show 256 - 1 - j = 255 - j by omega]
    have hH := ref_high a ha
    clear hm h0
    generalize hq : a / b = q at hD ⊢
    generalize hr : a % b = r at hD ⊢
    clear hq hr
    go_enter Try.func21, Try.ntmps21
    go_wp2
    have hKeep : Keeps [5, 6] (fun _ => 24) (fun _ => (isBits 256 (fun j => bitsOf a (255 - j)))) := keeps_bits (by decide)
    refine wp_flowM (fun k => ([1, 3, 1, 1, 1, 1, 0, 3, 3, 2, 2] : List Nat).getD k 1) [5, 6] (fun _ => 24) [13] (fun _ => (isBits 256 (fun j => bitsOf a (255 - j)))) (fun k => if k = 1 then (fun v => ∃ g cap, v = .slice (some ⟨g, 0, none⟩) 256 cap) else isBox (w.heap.size + 3)) (fun k => ([W4 a, undef, W4 b, .tuple #[W4 q, W4 r], .tuple #[W4 q, W4 r], W4 q, W4 r, undef, undef, undef, undef] : List Value).getD k undef) (fun _ => #[.int .u64 0, .int .u64 0, .int .u64 0, .int .u64 0]) (w.heap.size + 3) ?_ ?_ (by kernel_rfl) (by kernel_rfl) ?_ ?_
    focus (intro d hd; simp only [List.mem_cons, List.not_mem_nil, or_false] at hd; rcases hd with rfl | rfl <;> rfl)
    focus (intro d hd; simp only [List.mem_cons, List.not_mem_nil, or_false] at hd; subst hd; rfl)
    focus (intro i; show ∃ v, (if i = 1 then (fun v => ∃ g cap, v = .slice (some ⟨g, 0, none⟩) 256 cap) else isBox (w.heap.size + 3)) v; split; (focus (exact ⟨_, 0, 0, rfl⟩)); (focus (exact ⟨_, _, Nat.le_refl _, rfl⟩)))
    (refine flowM_quiet rfl hKeep (by first | exact Nat.le_refl _ | (simp only [World.size_alloc]; omega) | omega) rfl rfl rfl (fun K hK => ⟨?_, ?_⟩); (focus (intro w' hw' hsee; clear hsee; have hc := (bcell hw').1; go_simp; (try go_bits); all_goals (first | exact ⟨rfl, Below.refl _ _⟩ | exact Below.refl _ _))); go_simp; (try go_bits); refine hK _ ?_; clear hK K)
    (refine flowM_any rfl hKeep (by first | exact Nat.le_refl _ | (simp only [World.size_alloc]; omega) | omega) rfl (fun K hK => ⟨?_, ?_⟩); (focus (intro w' hw' hsee; clear hsee; have hc := (bcell hw').1; go_simp; all_goals (go_at_call 59; refine (hH _).mono ?_; rintro e w2 ⟨g, cap, rfl, hg, hcap, hrow, hb⟩; exact ⟨_, rfl, ⟨g, cap, rfl⟩, hb, g, cap, rfl, hrow⟩))); (rintro v ⟨g, cap, rfl⟩; go_simp; (try go_bits); refine hK _ ?_; clear hK K))
    (refine flowM_quiet rfl hKeep (by first | exact Nat.le_refl _ | (simp only [World.size_alloc]; omega) | omega) rfl rfl rfl (fun K hK => ⟨?_, ?_⟩); (focus (intro w' hw' hsee; clear hsee; have hc := (bcell hw').1; go_simp; (try go_bits); all_goals (first | exact ⟨rfl, Below.refl _ _⟩ | exact Below.refl _ _))); go_simp; (try go_bits); refine hK _ ?_; clear hK K)
    first | (refine flowM_quiet rfl hKeep (by first | exact Nat.le_refl _ | (simp only [World.size_alloc]; omega) | omega) rfl rfl rfl (fun K hK => ⟨?_, ?_⟩); (focus (intro w' hw' hsee; have hc := (bcell hw').1; rcases hsee 13 (by simp) (of_decide_eq_true (by kernel_rfl)) with hs | ⟨g', cap', hv', hrow⟩; exact absurd hs (by intro hs; cases hs); obtain ⟨rfl, rfl⟩ : g = g' ∧ cap = cap' := (by simpa using hv'); clear hsee; go_simp; all_goals (go_at_call 58; with_reducible refine (hD _ _ _ hrow).mono ?_; rintro e w2 ⟨rfl, hb⟩; exact ⟨rfl, hb⟩))); go_simp; (try go_bits); refine hK _ ?_; clear hK K) | (refine flowM_quiet rfl hKeep (by first | exact Nat.le_refl _ | (simp only [World.size_alloc]; omega) | omega) rfl rfl rfl (fun K hK => ⟨?_, ?_⟩); (focus (intro w' hw' hsee; have hc := (bcell hw').1; rcases hsee 13 (by simp) (of_decide_eq_true (by kernel_rfl)) with hs | ⟨g', cap', hv', hrow⟩; exact absurd hs (by intro hs; cases hs); obtain ⟨rfl, rfl⟩ : g = g' ∧ cap = cap' := (by simpa using hv'); clear hsee; go_simp; all_goals (go_at_call 58; refine (hD _ _ _ hrow).mono ?_; rintro e w2 ⟨rfl, hb⟩; exact ⟨rfl, hb⟩))); go_simp; (try go_bits); refine hK _ ?_; clear hK K)
    (refine flowM_quiet rfl hKeep (by first | exact Nat.le_refl _ | (simp only [World.size_alloc]; omega) | omega) rfl rfl rfl (fun K hK => ⟨?_, ?_⟩); (focus (intro w' hw' hsee; clear hsee; have hc := (bcell hw').1; go_simp; (try go_bits); all_goals (first | exact ⟨rfl, Below.refl _ _⟩ | exact Below.refl _ _))); go_simp; (try go_bits); refine hK _ ?_; clear hK K)
    (refine flowM_quiet rfl hKeep (by first | exact Nat.le_refl _ | (simp only [World.size_alloc]; omega) | omega) rfl rfl rfl (fun K hK => ⟨?_, ?_⟩); (focus (intro w' hw' hsee; clear hsee; have hc := (bcell hw').1; go_simp; (try go_bits); all_goals (first | exact ⟨rfl, Below.refl _ _⟩ | exact Below.refl _ _))); go_simp; (try go_bits); refine hK _ ?_; clear hK K)
    (refine flowM_late rfl rfl (fun K hK => ⟨?_, ?_⟩); (focus (intro w' hw'; have hc := (bcell hw').1; go_simp; done)); go_simp; (try go_bits); refine hK _ ?_; clear hK K)
    (refine flowM_new rfl rfl hKeep (by first | exact Nat.le_refl _ | (simp only [World.size_alloc]; omega) | omega) rfl (fun a w' => ?_) (fun K hK bx hbx => ?_); (focus (go_simp; done)); go_simp; (try go_bits); refine hK _ ?_; clear hK K)
    (refine flowM_new rfl rfl hKeep (by first | exact Nat.le_refl _ | (simp only [World.size_alloc]; omega) | omega) rfl (fun a w' => ?_) (fun K hK bx hbx => ?_); (focus (go_simp; done)); go_simp; (try go_bits); refine hK _ ?_; clear hK K)
    (refine flowM_store _ _ rfl rfl hKeep (by simp) rfl rfl (by kernel_rfl) rfl (by first | rfl | simp [Value.oneCell']) ?_; (try simp only [Act.put]))
    (refine flowM_store _ _ rfl rfl hKeep (by simp) rfl rfl (by kernel_rfl) rfl (by first | rfl | simp [Value.oneCell']) ?_; (try simp only [Act.put]))
    refine flowM_nil ?_
    intro w' hw'
    obtain ⟨z5, r5⟩ := box_word (d := 6) (n := r) hw'.1 (by simp) rfl (by simp [updS]) rfl
    obtain ⟨q0, q1, q2, q3, qf⟩ := r5.cells
    obtain ⟨⟨hb_w2, _⟩, _⟩ := hw'
    have hc_w' := (bcell hb_w2).1; have hf_w' := (bcell hb_w2).2; have hz_w' : _ ≤ w'.heap.size := hb_w2.size; (try simp only [World.size_alloc, World.heap_drewN, World.size_setCell, heap_drew] at hc_w' hf_w' hz_w')
    clear hD hH hKeep
    go_wp2
    refine bodyPost_ret (by simp only [results, Try.results21]; go_simp) rfl ⟨rfl, ?_⟩
    repeat (with_reducible first | exact Below.refl _ _ | assumption | refine below_drewN ?_ _ | refine Below.drew ?_ | refine below_setRow' ?_ (by first | omega | (simp; done) | (simp; omega)) _ | refine Below.setCell ?_ (by first | omega | (simp; done) | (simp; omega)) _ | refine Below.alloc ?_ (by first | omega | (simp; done) | (simp; omega)) _ | refine Below.trans ?_ (Below.mono (by assumption) (by first | omega | (simp; done) | (simp; omega))))

set_option maxHeartbeats 4000000 in
theorem SMod_any (a b : Nat) (ha : a < Q256) (hb : b < Q256) (w : World) :
    Calls Try.prog 24 #[W4 a, W4 b] w fun e w' => e = .returned (W4 (smodW a b)) ∧ Below w.heap.size w w' := by
  have ta := tnd_lt ha (negB a)
  have tb := tnd_lt hb (negB b)
  have td := modW_lt (b := tnd b (negB b)) ta
  unfold smodW
  generalize hna : negB a = na at *
  generalize hnb : negB b = nb at *
  generalize hA : tnd a na = A at *
  generalize hB : tnd b nb = B at *
  generalize hD : modW A B = D at *
  have c1 : ∀ W, Calls Try.prog 61 #[W4 a] W fun e w' => e = .returned (.bool na) ∧ Below W.heap.size W w' := fun W => hna ▸ isNeg_any a ha W
  have c2 : ∀ W, Calls Try.prog 61 #[W4 b] W fun e w' => e = .returned (.bool nb) ∧ Below W.heap.size W w' := fun W => hnb ▸ isNeg_any b hb W
  have c3 : ∀ W, Calls Try.prog 60 #[W4 a, .bool na] W fun e w' => e = .returned (W4 A) ∧ Below W.heap.size W w' := fun W => hA ▸ turned_any a na ha W
  have c4 : ∀ W, Calls Try.prog 60 #[W4 b, .bool nb] W fun e w' => e = .returned (W4 B) ∧ Below W.heap.size W w' := fun W => hB ▸ turned_any b nb hb W
  have c5 : ∀ W, Calls Try.prog 20 #[W4 A, W4 B] W fun e w' => e = .returned (W4 D) ∧ Below W.heap.size W w' := fun W => hD ▸ Mod_any A B ta tb W
  have c6 : ∀ W, Calls Try.prog 60 #[W4 D, .bool na] W fun e w' => e = .returned (W4 (tnd D na)) ∧ Below W.heap.size W w' := fun W => turned_any D _ td W
  generalize hR : tnd D na = R at *
  clear hna hnb hA hB hD hR
  go_enter Try.func24, Try.ntmps24
  go_wp2
  refine wp_flow (fun k => ([1, 1, 1, 1, 1, 1, 1, 1, 1, 1, 1, 1, 2] : List Nat).getD k 1) (Below (w.heap.size + 3)) _ (Below.drew (Below.refl _ _)) (by kernel_rfl) (by kernel_rfl) ?_
  (refine flow_quiet rfl rfl (fun K hK => ?_); apply Exists.intro; apply And.intro; (focus (intro w' hw'; have hc := (bcell hw').1; go_simp; (try go_bits); all_goals (first | exact rfl | exact ⟨rfl, hw'⟩))); go_simp; (try go_bits); refine hK _ ?_; clear hK K)
  (refine flow_quiet rfl rfl (fun K hK => ?_); apply Exists.intro; apply And.intro; (focus (intro w' hw'; have hc := (bcell hw').1; go_simp; (try go_bits); all_goals (first | exact rfl | exact ⟨rfl, hw'⟩))); go_simp; (try go_bits); refine hK _ ?_; clear hK K)
  first | (refine flow_quiet rfl rfl (fun K hK => ?_); apply Exists.intro; apply And.intro; (focus (intro w' hw'; have hc := (bcell hw').1; go_simp; (try go_bits); all_goals (go_at_call 61; with_reducible refine (c1 _).mono ?_; rintro e w2 ⟨rfl, hb⟩; exact ⟨rfl, hw'.trans (hb.mono (below_le hw' (by simp)))⟩))); go_simp; (try go_bits); refine hK _ ?_; clear hK K) | (refine flow_quiet rfl rfl (fun K hK => ?_); apply Exists.intro; apply And.intro; (focus (intro w' hw'; have hc := (bcell hw').1; go_simp; (try go_bits); all_goals (go_at_call 61; with_reducible refine (c2 _).mono ?_; rintro e w2 ⟨rfl, hb⟩; exact ⟨rfl, hw'.trans (hb.mono (below_le hw' (by simp)))⟩))); go_simp; (try go_bits); refine hK _ ?_; clear hK K) | (refine flow_quiet rfl rfl (fun K hK => ?_); apply Exists.intro; apply And.intro; (focus (intro w' hw'; have hc := (bcell hw').1; go_simp; (try go_bits); all_goals (go_at_call 61; refine (c1 _).mono ?_; rintro e w2 ⟨rfl, hb⟩; exact ⟨rfl, hw'.trans (hb.mono (below_le hw' (by simp)))⟩))); go_simp; (try go_bits); refine hK _ ?_; clear hK K) | (refine flow_quiet rfl rfl (fun K hK => ?_); apply Exists.intro; apply And.intro; (focus (intro w' hw'; have hc := (bcell hw').1; go_simp; (try go_bits); all_goals (go_at_call 61; refine (c2 _).mono ?_; rintro e w2 ⟨rfl, hb⟩; exact ⟨rfl, hw'.trans (hb.mono (below_le hw' (by simp)))⟩))); go_simp; (try go_bits); refine hK _ ?_; clear hK K)
  first | (refine flow_quiet rfl rfl (fun K hK => ?_); apply Exists.intro; apply And.intro; (focus (intro w' hw'; have hc := (bcell hw').1; go_simp; (try go_bits); all_goals (go_at_call 60; with_reducible refine (c3 _).mono ?_; rintro e w2 ⟨rfl, hb⟩; exact ⟨rfl, hw'.trans (hb.mono (below_le hw' (by simp)))⟩))); go_simp; (try go_bits); refine hK _ ?_; clear hK K) | (refine flow_quiet rfl rfl (fun K hK => ?_); apply Exists.intro; apply And.intro; (focus (intro w' hw'; have hc := (bcell hw').1; go_simp; (try go_bits); all_goals (go_at_call 60; with_reducible refine (c4 _).mono ?_; rintro e w2 ⟨rfl, hb⟩; exact ⟨rfl, hw'.trans (hb.mono (below_le hw' (by simp)))⟩))); go_simp; (try go_bits); refine hK _ ?_; clear hK K) | (refine flow_quiet rfl rfl (fun K hK => ?_); apply Exists.intro; apply And.intro; (focus (intro w' hw'; have hc := (bcell hw').1; go_simp; (try go_bits); all_goals (go_at_call 60; with_reducible refine (c6 _).mono ?_; rintro e w2 ⟨rfl, hb⟩; exact ⟨rfl, hw'.trans (hb.mono (below_le hw' (by simp)))⟩))); go_simp; (try go_bits); refine hK _ ?_; clear hK K) | (refine flow_quiet rfl rfl (fun K hK => ?_); apply Exists.intro; apply And.intro; (focus (intro w' hw'; have hc := (bcell hw').1; go_simp; (try go_bits); all_goals (go_at_call 60; refine (c3 _).mono ?_; rintro e w2 ⟨rfl, hb⟩; exact ⟨rfl, hw'.trans (hb.mono (below_le hw' (by simp)))⟩))); go_simp; (try go_bits); refine hK _ ?_; clear hK K) | (refine flow_quiet rfl rfl (fun K hK => ?_); apply Exists.intro; apply And.intro; (focus (intro w' hw'; have hc := (bcell hw').1; go_simp; (try go_bits); all_goals (go_at_call 60; refine (c4 _).mono ?_; rintro e w2 ⟨rfl, hb⟩; exact ⟨rfl, hw'.trans (hb.mono (below_le hw' (by simp)))⟩))); go_simp; (try go_bits); refine hK _ ?_; clear hK K) | (refine flow_quiet rfl rfl (fun K hK => ?_); apply Exists.intro; apply And.intro; (focus (intro w' hw'; have hc := (bcell hw').1; go_simp; (try go_bits); all_goals (go_at_call 60; refine (c6 _).mono ?_; rintro e w2 ⟨rfl, hb⟩; exact ⟨rfl, hw'.trans (hb.mono (below_le hw' (by simp)))⟩))); go_simp; (try go_bits); refine hK _ ?_; clear hK K)
  (refine flow_quiet rfl rfl (fun K hK => ?_); apply Exists.intro; apply And.intro; (focus (intro w' hw'; have hc := (bcell hw').1; go_simp; (try go_bits); all_goals (first | exact rfl | exact ⟨rfl, hw'⟩))); go_simp; (try go_bits); refine hK _ ?_; clear hK K)
  (refine flow_quiet rfl rfl (fun K hK => ?_); apply Exists.intro; apply And.intro; (focus (intro w' hw'; have hc := (bcell hw').1; go_simp; (try go_bits); all_goals (first | exact rfl | exact ⟨rfl, hw'⟩))); go_simp; (try go_bits); refine hK _ ?_; clear hK K)
  first | (refine flow_quiet rfl rfl (fun K hK => ?_); apply Exists.intro; apply And.intro; (focus (intro w' hw'; have hc := (bcell hw').1; go_simp; (try go_bits); all_goals (go_at_call 61; with_reducible refine (c1 _).mono ?_; rintro e w2 ⟨rfl, hb⟩; exact ⟨rfl, hw'.trans (hb.mono (below_le hw' (by simp)))⟩))); go_simp; (try go_bits); refine hK _ ?_; clear hK K) | (refine flow_quiet rfl rfl (fun K hK => ?_); apply Exists.intro; apply And.intro; (focus (intro w' hw'; have hc := (bcell hw').1; go_simp; (try go_bits); all_goals (go_at_call 61; with_reducible refine (c2 _).mono ?_; rintro e w2 ⟨rfl, hb⟩; exact ⟨rfl, hw'.trans (hb.mono (below_le hw' (by simp)))⟩))); go_simp; (try go_bits); refine hK _ ?_; clear hK K) | (refine flow_quiet rfl rfl (fun K hK => ?_); apply Exists.intro; apply And.intro; (focus (intro w' hw'; have hc := (bcell hw').1; go_simp; (try go_bits); all_goals (go_at_call 61; refine (c1 _).mono ?_; rintro e w2 ⟨rfl, hb⟩; exact ⟨rfl, hw'.trans (hb.mono (below_le hw' (by simp)))⟩))); go_simp; (try go_bits); refine hK _ ?_; clear hK K) | (refine flow_quiet rfl rfl (fun K hK => ?_); apply Exists.intro; apply And.intro; (focus (intro w' hw'; have hc := (bcell hw').1; go_simp; (try go_bits); all_goals (go_at_call 61; refine (c2 _).mono ?_; rintro e w2 ⟨rfl, hb⟩; exact ⟨rfl, hw'.trans (hb.mono (below_le hw' (by simp)))⟩))); go_simp; (try go_bits); refine hK _ ?_; clear hK K)
  first | (refine flow_quiet rfl rfl (fun K hK => ?_); apply Exists.intro; apply And.intro; (focus (intro w' hw'; have hc := (bcell hw').1; go_simp; (try go_bits); all_goals (go_at_call 60; with_reducible refine (c3 _).mono ?_; rintro e w2 ⟨rfl, hb⟩; exact ⟨rfl, hw'.trans (hb.mono (below_le hw' (by simp)))⟩))); go_simp; (try go_bits); refine hK _ ?_; clear hK K) | (refine flow_quiet rfl rfl (fun K hK => ?_); apply Exists.intro; apply And.intro; (focus (intro w' hw'; have hc := (bcell hw').1; go_simp; (try go_bits); all_goals (go_at_call 60; with_reducible refine (c4 _).mono ?_; rintro e w2 ⟨rfl, hb⟩; exact ⟨rfl, hw'.trans (hb.mono (below_le hw' (by simp)))⟩))); go_simp; (try go_bits); refine hK _ ?_; clear hK K) | (refine flow_quiet rfl rfl (fun K hK => ?_); apply Exists.intro; apply And.intro; (focus (intro w' hw'; have hc := (bcell hw').1; go_simp; (try go_bits); all_goals (go_at_call 60; with_reducible refine (c6 _).mono ?_; rintro e w2 ⟨rfl, hb⟩; exact ⟨rfl, hw'.trans (hb.mono (below_le hw' (by simp)))⟩))); go_simp; (try go_bits); refine hK _ ?_; clear hK K) | (refine flow_quiet rfl rfl (fun K hK => ?_); apply Exists.intro; apply And.intro; (focus (intro w' hw'; have hc := (bcell hw').1; go_simp; (try go_bits); all_goals (go_at_call 60; refine (c3 _).mono ?_; rintro e w2 ⟨rfl, hb⟩; exact ⟨rfl, hw'.trans (hb.mono (below_le hw' (by simp)))⟩))); go_simp; (try go_bits); refine hK _ ?_; clear hK K) | (refine flow_quiet rfl rfl (fun K hK => ?_); apply Exists.intro; apply And.intro; (focus (intro w' hw'; have hc := (bcell hw').1; go_simp; (try go_bits); all_goals (go_at_call 60; refine (c4 _).mono ?_; rintro e w2 ⟨rfl, hb⟩; exact ⟨rfl, hw'.trans (hb.mono (below_le hw' (by simp)))⟩))); go_simp; (try go_bits); refine hK _ ?_; clear hK K) | (refine flow_quiet rfl rfl (fun K hK => ?_); apply Exists.intro; apply And.intro; (focus (intro w' hw'; have hc := (bcell hw').1; go_simp; (try go_bits); all_goals (go_at_call 60; refine (c6 _).mono ?_; rintro e w2 ⟨rfl, hb⟩; exact ⟨rfl, hw'.trans (hb.mono (below_le hw' (by simp)))⟩))); go_simp; (try go_bits); refine hK _ ?_; clear hK K)
  first | (refine flow_quiet rfl rfl (fun K hK => ?_); apply Exists.intro; apply And.intro; (focus (intro w' hw'; have hc := (bcell hw').1; go_simp; (try go_bits); all_goals (go_at_call 20; with_reducible refine (c5 _).mono ?_; rintro e w2 ⟨rfl, hb⟩; exact ⟨rfl, hw'.trans (hb.mono (below_le hw' (by simp)))⟩))); go_simp; (try go_bits); refine hK _ ?_; clear hK K) | (refine flow_quiet rfl rfl (fun K hK => ?_); apply Exists.intro; apply And.intro; (focus (intro w' hw'; have hc := (bcell hw').1; go_simp; (try go_bits); all_goals (go_at_call 20; refine (c5 _).mono ?_; rintro e w2 ⟨rfl, hb⟩; exact ⟨rfl, hw'.trans (hb.mono (below_le hw' (by simp)))⟩))); go_simp; (try go_bits); refine hK _ ?_; clear hK K)
  (refine flow_quiet rfl rfl (fun K hK => ?_); apply Exists.intro; apply And.intro; (focus (intro w' hw'; have hc := (bcell hw').1; go_simp; (try go_bits); all_goals (first | exact rfl | exact ⟨rfl, hw'⟩))); go_simp; (try go_bits); refine hK _ ?_; clear hK K)
  first | (refine flow_quiet rfl rfl (fun K hK => ?_); apply Exists.intro; apply And.intro; (focus (intro w' hw'; have hc := (bcell hw').1; go_simp; (try go_bits); all_goals (go_at_call 61; with_reducible refine (c1 _).mono ?_; rintro e w2 ⟨rfl, hb⟩; exact ⟨rfl, hw'.trans (hb.mono (below_le hw' (by simp)))⟩))); go_simp; (try go_bits); refine hK _ ?_; clear hK K) | (refine flow_quiet rfl rfl (fun K hK => ?_); apply Exists.intro; apply And.intro; (focus (intro w' hw'; have hc := (bcell hw').1; go_simp; (try go_bits); all_goals (go_at_call 61; with_reducible refine (c2 _).mono ?_; rintro e w2 ⟨rfl, hb⟩; exact ⟨rfl, hw'.trans (hb.mono (below_le hw' (by simp)))⟩))); go_simp; (try go_bits); refine hK _ ?_; clear hK K) | (refine flow_quiet rfl rfl (fun K hK => ?_); apply Exists.intro; apply And.intro; (focus (intro w' hw'; have hc := (bcell hw').1; go_simp; (try go_bits); all_goals (go_at_call 61; refine (c1 _).mono ?_; rintro e w2 ⟨rfl, hb⟩; exact ⟨rfl, hw'.trans (hb.mono (below_le hw' (by simp)))⟩))); go_simp; (try go_bits); refine hK _ ?_; clear hK K) | (refine flow_quiet rfl rfl (fun K hK => ?_); apply Exists.intro; apply And.intro; (focus (intro w' hw'; have hc := (bcell hw').1; go_simp; (try go_bits); all_goals (go_at_call 61; refine (c2 _).mono ?_; rintro e w2 ⟨rfl, hb⟩; exact ⟨rfl, hw'.trans (hb.mono (below_le hw' (by simp)))⟩))); go_simp; (try go_bits); refine hK _ ?_; clear hK K)
  first | (refine flow_quiet rfl rfl (fun K hK => ?_); apply Exists.intro; apply And.intro; (focus (intro w' hw'; have hc := (bcell hw').1; go_simp; (try go_bits); all_goals (go_at_call 60; with_reducible refine (c3 _).mono ?_; rintro e w2 ⟨rfl, hb⟩; exact ⟨rfl, hw'.trans (hb.mono (below_le hw' (by simp)))⟩))); go_simp; (try go_bits); refine hK _ ?_; clear hK K) | (refine flow_quiet rfl rfl (fun K hK => ?_); apply Exists.intro; apply And.intro; (focus (intro w' hw'; have hc := (bcell hw').1; go_simp; (try go_bits); all_goals (go_at_call 60; with_reducible refine (c4 _).mono ?_; rintro e w2 ⟨rfl, hb⟩; exact ⟨rfl, hw'.trans (hb.mono (below_le hw' (by simp)))⟩))); go_simp; (try go_bits); refine hK _ ?_; clear hK K) | (refine flow_quiet rfl rfl (fun K hK => ?_); apply Exists.intro; apply And.intro; (focus (intro w' hw'; have hc := (bcell hw').1; go_simp; (try go_bits); all_goals (go_at_call 60; with_reducible refine (c6 _).mono ?_; rintro e w2 ⟨rfl, hb⟩; exact ⟨rfl, hw'.trans (hb.mono (below_le hw' (by simp)))⟩))); go_simp; (try go_bits); refine hK _ ?_; clear hK K) | (refine flow_quiet rfl rfl (fun K hK => ?_); apply Exists.intro; apply And.intro; (focus (intro w' hw'; have hc := (bcell hw').1; go_simp; (try go_bits); all_goals (go_at_call 60; refine (c3 _).mono ?_; rintro e w2 ⟨rfl, hb⟩; exact ⟨rfl, hw'.trans (hb.mono (below_le hw' (by simp)))⟩))); go_simp; (try go_bits); refine hK _ ?_; clear hK K) | (refine flow_quiet rfl rfl (fun K hK => ?_); apply Exists.intro; apply And.intro; (focus (intro w' hw'; have hc := (bcell hw').1; go_simp; (try go_bits); all_goals (go_at_call 60; refine (c4 _).mono ?_; rintro e w2 ⟨rfl, hb⟩; exact ⟨rfl, hw'.trans (hb.mono (below_le hw' (by simp)))⟩))); go_simp; (try go_bits); refine hK _ ?_; clear hK K) | (refine flow_quiet rfl rfl (fun K hK => ?_); apply Exists.intro; apply And.intro; (focus (intro w' hw'; have hc := (bcell hw').1; go_simp; (try go_bits); all_goals (go_at_call 60; refine (c6 _).mono ?_; rintro e w2 ⟨rfl, hb⟩; exact ⟨rfl, hw'.trans (hb.mono (below_le hw' (by simp)))⟩))); go_simp; (try go_bits); refine hK _ ?_; clear hK K)
  (refine flow_eff rfl rfl (fun K hK => ?_); apply Exists.intro; apply Exists.intro; apply And.intro; (focus (intro w' hw'; have hc := (bcell hw').1; have hf := (bcell hw').2; go_simp; (try go_bits); refine ⟨rfl, ?_⟩; (repeat apply below_store); exact hw')); go_simp; (try go_bits); refine hK _ _ ?_; clear hK K)
  refine flow_nil ?_
  intro w' hw'
  have hc_w' := (bcell hw').1; have hf_w' := (bcell hw').2; have hz_w' : _ ≤ w'.heap.size := hw'.size; (try simp only [World.size_alloc, World.heap_drewN, World.size_setCell, heap_drew] at hc_w' hf_w' hz_w'); have hz_w'_w_0 : w.heap.size < w'.heap.size := (by omega); have hz_w'_w_1 : w.heap.size + 1 < w'.heap.size := (by omega); have hz_w'_w_2 : w.heap.size + 1 + 1 < w'.heap.size := (by omega)
  go_wp2
  refine bodyPost_ret (by simp only [results, Try.results24]; go_simp) rfl ⟨rfl, ?_⟩
  repeat (with_reducible first | exact Below.refl _ _ | assumption | refine below_drewN ?_ _ | refine Below.drew ?_ | refine below_setRow' ?_ (by first | omega | (simp; done) | (simp; omega)) _ | refine Below.setCell ?_ (by first | omega | (simp; done) | (simp; omega)) _ | refine Below.alloc ?_ (by first | omega | (simp; done) | (simp; omega)) _ | refine Below.trans ?_ (Below.mono (by assumption) (by first | omega | (simp; done) | (simp; omega))))

set_option maxHeartbeats 4000000 in
theorem ref_SDiv (a b : Nat) (ha : a < Q256) (hb : b < Q256) (w : World) :
    Calls Try.prog 23 #[W4 a, W4 b] w fun e w' => e = .returned (W4 (sdivW a b)) ∧ Below w.heap.size w w' := by
  have ta := tnd_lt ha (negB a)
  have tb := tnd_lt hb (negB b)
  have td := divW_lt (b := tnd b (negB b)) ta
  unfold sdivW
  have n1 := fun W => ref_negative a ha W
  have n2 := fun W => ref_negative b hb W
  have c1 := fun W => ref_size a ha W
  have c2 := fun W => ref_size b hb W
  generalize negB a = na at *
  generalize negB b = nb at *
  generalize tnd a na = A at *
  generalize tnd b nb = B at *
  have c3 := fun W => ref_Div A B ta tb W
  generalize divW A B = D at *
  have c4 : ∀ W, Calls Try.prog 32 #[.agg #[.int .u64 0, .int .u64 0, .int .u64 0, .int .u64 0], W4 D] W fun e w' => e = .returned (W4 (tnd D true)) ∧ Below W.heap.size W w' := fun W => by
    have := ref_Sub 0 D Q256_pos td W
    rw [W4_zero, Nat.zero_add, ← tnd_true] at this
    exact this
  have h0 := tnd_false D
  cases hne : (!(na == nb))
  · rw [show (na != nb) = false from hne, h0]
    clear h0 c4
    go_enter Try.func23, Try.ntmps23
    go_wp2
    refine wp_flowN (fun k => ([1, 1, 1, 1, 1, 3, 2] : List Nat).getD k 1) [5] (fun _ => 24) (fun k => ([W4 a, W4 A, W4 b, W4 B, W4 D, undef, undef] : List Value).getD k undef) (fun _ => #[.int .u64 0, .int .u64 0, .int .u64 0, .int .u64 0]) (w.heap.size + 3) ?_ (by kernel_rfl) (by kernel_rfl) ?_
    focus (intro d hd; simp only [List.mem_cons, List.not_mem_nil, or_false] at hd; rcases hd with rfl <;> rfl)
    (refine flowN_quiet rfl (by first | exact Nat.le_refl _ | (simp only [World.size_alloc]; omega) | omega) rfl rfl (fun K hK => ⟨?_, ?_⟩); (focus (intro w' hw'; have hc := (bcell hw').1; go_simp; (try go_bits); all_goals (first | exact ⟨rfl, Below.refl _ _⟩ | exact Below.refl _ _))); go_simp; (try go_bits); refine hK _ ?_; clear hK K)
    first | (refine flowN_quiet rfl (by first | exact Nat.le_refl _ | (simp only [World.size_alloc]; omega) | omega) rfl rfl (fun K hK => ⟨?_, ?_⟩); (focus (intro w' hw'; have hc := (bcell hw').1; go_simp; all_goals (go_at_call 62; with_reducible refine (c1 _).mono ?_; rintro e w2 ⟨rfl, hb⟩; exact ⟨rfl, hb⟩))); go_simp; (try go_bits); refine hK _ ?_; clear hK K) | (refine flowN_quiet rfl (by first | exact Nat.le_refl _ | (simp only [World.size_alloc]; omega) | omega) rfl rfl (fun K hK => ⟨?_, ?_⟩); (focus (intro w' hw'; have hc := (bcell hw').1; go_simp; all_goals (go_at_call 62; with_reducible refine (c2 _).mono ?_; rintro e w2 ⟨rfl, hb⟩; exact ⟨rfl, hb⟩))); go_simp; (try go_bits); refine hK _ ?_; clear hK K) | (refine flowN_quiet rfl (by first | exact Nat.le_refl _ | (simp only [World.size_alloc]; omega) | omega) rfl rfl (fun K hK => ⟨?_, ?_⟩); (focus (intro w' hw'; have hc := (bcell hw').1; go_simp; all_goals (go_at_call 62; refine (c1 _).mono ?_; rintro e w2 ⟨rfl, hb⟩; exact ⟨rfl, hb⟩))); go_simp; (try go_bits); refine hK _ ?_; clear hK K) | (refine flowN_quiet rfl (by first | exact Nat.le_refl _ | (simp only [World.size_alloc]; omega) | omega) rfl rfl (fun K hK => ⟨?_, ?_⟩); (focus (intro w' hw'; have hc := (bcell hw').1; go_simp; all_goals (go_at_call 62; refine (c2 _).mono ?_; rintro e w2 ⟨rfl, hb⟩; exact ⟨rfl, hb⟩))); go_simp; (try go_bits); refine hK _ ?_; clear hK K)
    (refine flowN_quiet rfl (by first | exact Nat.le_refl _ | (simp only [World.size_alloc]; omega) | omega) rfl rfl (fun K hK => ⟨?_, ?_⟩); (focus (intro w' hw'; have hc := (bcell hw').1; go_simp; (try go_bits); all_goals (first | exact ⟨rfl, Below.refl _ _⟩ | exact Below.refl _ _))); go_simp; (try go_bits); refine hK _ ?_; clear hK K)
    first | (refine flowN_quiet rfl (by first | exact Nat.le_refl _ | (simp only [World.size_alloc]; omega) | omega) rfl rfl (fun K hK => ⟨?_, ?_⟩); (focus (intro w' hw'; have hc := (bcell hw').1; go_simp; all_goals (go_at_call 62; with_reducible refine (c1 _).mono ?_; rintro e w2 ⟨rfl, hb⟩; exact ⟨rfl, hb⟩))); go_simp; (try go_bits); refine hK _ ?_; clear hK K) | (refine flowN_quiet rfl (by first | exact Nat.le_refl _ | (simp only [World.size_alloc]; omega) | omega) rfl rfl (fun K hK => ⟨?_, ?_⟩); (focus (intro w' hw'; have hc := (bcell hw').1; go_simp; all_goals (go_at_call 62; with_reducible refine (c2 _).mono ?_; rintro e w2 ⟨rfl, hb⟩; exact ⟨rfl, hb⟩))); go_simp; (try go_bits); refine hK _ ?_; clear hK K) | (refine flowN_quiet rfl (by first | exact Nat.le_refl _ | (simp only [World.size_alloc]; omega) | omega) rfl rfl (fun K hK => ⟨?_, ?_⟩); (focus (intro w' hw'; have hc := (bcell hw').1; go_simp; all_goals (go_at_call 62; refine (c1 _).mono ?_; rintro e w2 ⟨rfl, hb⟩; exact ⟨rfl, hb⟩))); go_simp; (try go_bits); refine hK _ ?_; clear hK K) | (refine flowN_quiet rfl (by first | exact Nat.le_refl _ | (simp only [World.size_alloc]; omega) | omega) rfl rfl (fun K hK => ⟨?_, ?_⟩); (focus (intro w' hw'; have hc := (bcell hw').1; go_simp; all_goals (go_at_call 62; refine (c2 _).mono ?_; rintro e w2 ⟨rfl, hb⟩; exact ⟨rfl, hb⟩))); go_simp; (try go_bits); refine hK _ ?_; clear hK K)
    first | (refine flowN_quiet rfl (by first | exact Nat.le_refl _ | (simp only [World.size_alloc]; omega) | omega) rfl rfl (fun K hK => ⟨?_, ?_⟩); (focus (intro w' hw'; have hc := (bcell hw').1; go_simp; all_goals (go_at_call 19; with_reducible refine (c3 _).mono ?_; rintro e w2 ⟨rfl, hb⟩; exact ⟨rfl, hb⟩))); go_simp; (try go_bits); refine hK _ ?_; clear hK K) | (refine flowN_quiet rfl (by first | exact Nat.le_refl _ | (simp only [World.size_alloc]; omega) | omega) rfl rfl (fun K hK => ⟨?_, ?_⟩); (focus (intro w' hw'; have hc := (bcell hw').1; go_simp; all_goals (go_at_call 19; refine (c3 _).mono ?_; rintro e w2 ⟨rfl, hb⟩; exact ⟨rfl, hb⟩))); go_simp; (try go_bits); refine hK _ ?_; clear hK K)
    (refine flowN_new rfl (by first | exact Nat.le_refl _ | (simp only [World.size_alloc]; omega) | omega) (fun a w' => ?_) (fun K hK bx hbx => ?_); (focus (go_simp; done)); go_simp; (try go_bits); refine hK _ ?_; clear hK K)
    (refine flowN_store _ _ rfl rfl (by simp) rfl rfl (by kernel_rfl) rfl (by first | rfl | simp [Value.oneCell']) ?_; (try simp only [Act.put]))
    refine flowN_nil ?_
    intro w' hw'
    obtain ⟨z5, r5⟩ := box_word (d := 5) (n := D) hw' (by simp) rfl (by simp [updS]) rfl
    obtain ⟨q0, q1, q2, q3, qf⟩ := r5.cells
    obtain ⟨hb_w2, _⟩ := hw'
    have hlt5 := r5.lt
    have hc_w' := (bcell hb_w2).1; have hf_w' := (bcell hb_w2).2; have hz_w' : _ ≤ w'.heap.size := hb_w2.size; (try simp only [World.size_alloc, World.heap_drewN, World.size_setCell, heap_drew] at hc_w' hf_w' hz_w'); have hz_w'_w_0 : w.heap.size < w'.heap.size := (by omega); have hz_w'_w_1 : w.heap.size + 1 < w'.heap.size := (by omega); have hz_w'_w_2 : w.heap.size + 1 + 1 < w'.heap.size := (by omega)
    have hb5 : bx ≠ w.heap.size + 1 + 1 := (by omega)
    have hb6 : w.heap.size + 1 + 1 ≠ bx := (by omega)
    clear r5
    go_wp2
    refine wp_flow (fun k => ([1, 1, 1, 1, 1] : List Nat).getD k 1) (Below (w'.heap.size)) _ (Below.drew (Below.refl _ _)) (by kernel_rfl) (by kernel_rfl) ?_
    (refine flow_quiet rfl rfl (fun K hK => ?_); apply Exists.intro; apply And.intro; (focus (intro w' hw'; have hc := (bcell hw').1; go_simp; (try go_bits); all_goals (first | exact rfl | exact ⟨rfl, hw'⟩))); go_simp; (try go_bits); refine hK _ ?_; clear hK K)
    first | (refine flow_quiet rfl rfl (fun K hK => ?_); apply Exists.intro; apply And.intro; (focus (intro w' hw'; have hc := (bcell hw').1; go_simp; (try go_bits); all_goals (go_at_call 63; with_reducible refine (n1 _).mono ?_; rintro e w2 ⟨rfl, hb⟩; exact ⟨rfl, hw'.trans (hb.mono (below_le hw' (by simp)))⟩))); go_simp; (try go_bits); refine hK _ ?_; clear hK K) | (refine flow_quiet rfl rfl (fun K hK => ?_); apply Exists.intro; apply And.intro; (focus (intro w' hw'; have hc := (bcell hw').1; go_simp; (try go_bits); all_goals (go_at_call 63; with_reducible refine (n2 _).mono ?_; rintro e w2 ⟨rfl, hb⟩; exact ⟨rfl, hw'.trans (hb.mono (below_le hw' (by simp)))⟩))); go_simp; (try go_bits); refine hK _ ?_; clear hK K) | (refine flow_quiet rfl rfl (fun K hK => ?_); apply Exists.intro; apply And.intro; (focus (intro w' hw'; have hc := (bcell hw').1; go_simp; (try go_bits); all_goals (go_at_call 63; refine (n1 _).mono ?_; rintro e w2 ⟨rfl, hb⟩; exact ⟨rfl, hw'.trans (hb.mono (below_le hw' (by simp)))⟩))); go_simp; (try go_bits); refine hK _ ?_; clear hK K) | (refine flow_quiet rfl rfl (fun K hK => ?_); apply Exists.intro; apply And.intro; (focus (intro w' hw'; have hc := (bcell hw').1; go_simp; (try go_bits); all_goals (go_at_call 63; refine (n2 _).mono ?_; rintro e w2 ⟨rfl, hb⟩; exact ⟨rfl, hw'.trans (hb.mono (below_le hw' (by simp)))⟩))); go_simp; (try go_bits); refine hK _ ?_; clear hK K)
    (refine flow_quiet rfl rfl (fun K hK => ?_); apply Exists.intro; apply And.intro; (focus (intro w' hw'; have hc := (bcell hw').1; go_simp; (try go_bits); all_goals (first | exact rfl | exact ⟨rfl, hw'⟩))); go_simp; (try go_bits); refine hK _ ?_; clear hK K)
    first | (refine flow_quiet rfl rfl (fun K hK => ?_); apply Exists.intro; apply And.intro; (focus (intro w' hw'; have hc := (bcell hw').1; go_simp; (try go_bits); all_goals (go_at_call 63; with_reducible refine (n1 _).mono ?_; rintro e w2 ⟨rfl, hb⟩; exact ⟨rfl, hw'.trans (hb.mono (below_le hw' (by simp)))⟩))); go_simp; (try go_bits); refine hK _ ?_; clear hK K) | (refine flow_quiet rfl rfl (fun K hK => ?_); apply Exists.intro; apply And.intro; (focus (intro w' hw'; have hc := (bcell hw').1; go_simp; (try go_bits); all_goals (go_at_call 63; with_reducible refine (n2 _).mono ?_; rintro e w2 ⟨rfl, hb⟩; exact ⟨rfl, hw'.trans (hb.mono (below_le hw' (by simp)))⟩))); go_simp; (try go_bits); refine hK _ ?_; clear hK K) | (refine flow_quiet rfl rfl (fun K hK => ?_); apply Exists.intro; apply And.intro; (focus (intro w' hw'; have hc := (bcell hw').1; go_simp; (try go_bits); all_goals (go_at_call 63; refine (n1 _).mono ?_; rintro e w2 ⟨rfl, hb⟩; exact ⟨rfl, hw'.trans (hb.mono (below_le hw' (by simp)))⟩))); go_simp; (try go_bits); refine hK _ ?_; clear hK K) | (refine flow_quiet rfl rfl (fun K hK => ?_); apply Exists.intro; apply And.intro; (focus (intro w' hw'; have hc := (bcell hw').1; go_simp; (try go_bits); all_goals (go_at_call 63; refine (n2 _).mono ?_; rintro e w2 ⟨rfl, hb⟩; exact ⟨rfl, hw'.trans (hb.mono (below_le hw' (by simp)))⟩))); go_simp; (try go_bits); refine hK _ ?_; clear hK K)
    (refine flow_quiet rfl rfl (fun K hK => ?_); apply Exists.intro; apply And.intro; (focus (intro w' hw'; have hc := (bcell hw').1; go_simp; (try go_bits); all_goals (first | exact rfl | exact ⟨rfl, hw'⟩))); go_simp; (try go_bits); refine hK _ ?_; clear hK K)
    refine flow_nil ?_
    intro wq hb_wq
    have hc_wq := (bcell hb_wq).1; have hf_wq := (bcell hb_wq).2; have hz_wq : _ ≤ wq.heap.size := hb_wq.size; (try simp only [World.size_alloc, World.heap_drewN, World.size_setCell, heap_drew] at hc_wq hf_wq hz_wq); have hz_wq_w_0 : w.heap.size < wq.heap.size := (by omega); have hz_wq_w_1 : w.heap.size + 1 < wq.heap.size := (by omega); have hz_wq_w_2 : w.heap.size + 1 + 1 < wq.heap.size := (by omega)
    go_wp2
    refine bodyPost_ret (by simp only [results, Try.results23]; go_simp) rfl ⟨rfl, ?_⟩
    repeat (with_reducible first | exact Below.refl _ _ | assumption | refine below_drewN ?_ _ | refine Below.drew ?_ | refine below_setRow' ?_ (by first | omega | (simp; done) | (simp; omega)) _ | refine Below.setCell ?_ (by first | omega | (simp; done) | (simp; omega)) _ | refine Below.alloc ?_ (by first | omega | (simp; done) | (simp; omega)) _ | refine Below.trans ?_ (Below.mono (by assumption) (by first | omega | (simp; done) | (simp; omega))))
  · rw [show (na != nb) = true from hne]
    generalize tnd D true = R at *
    clear h0
    go_enter Try.func23, Try.ntmps23
    go_wp2
    refine wp_flowN (fun k => ([1, 1, 1, 1, 1, 3, 2] : List Nat).getD k 1) [5] (fun _ => 24) (fun k => ([W4 a, W4 A, W4 b, W4 B, W4 D, undef, undef] : List Value).getD k undef) (fun _ => #[.int .u64 0, .int .u64 0, .int .u64 0, .int .u64 0]) (w.heap.size + 3) ?_ (by kernel_rfl) (by kernel_rfl) ?_
    focus (intro d hd; simp only [List.mem_cons, List.not_mem_nil, or_false] at hd; rcases hd with rfl <;> rfl)
    (refine flowN_quiet rfl (by first | exact Nat.le_refl _ | (simp only [World.size_alloc]; omega) | omega) rfl rfl (fun K hK => ⟨?_, ?_⟩); (focus (intro w' hw'; have hc := (bcell hw').1; go_simp; (try go_bits); all_goals (first | exact ⟨rfl, Below.refl _ _⟩ | exact Below.refl _ _))); go_simp; (try go_bits); refine hK _ ?_; clear hK K)
    first | (refine flowN_quiet rfl (by first | exact Nat.le_refl _ | (simp only [World.size_alloc]; omega) | omega) rfl rfl (fun K hK => ⟨?_, ?_⟩); (focus (intro w' hw'; have hc := (bcell hw').1; go_simp; all_goals (go_at_call 62; with_reducible refine (c1 _).mono ?_; rintro e w2 ⟨rfl, hb⟩; exact ⟨rfl, hb⟩))); go_simp; (try go_bits); refine hK _ ?_; clear hK K) | (refine flowN_quiet rfl (by first | exact Nat.le_refl _ | (simp only [World.size_alloc]; omega) | omega) rfl rfl (fun K hK => ⟨?_, ?_⟩); (focus (intro w' hw'; have hc := (bcell hw').1; go_simp; all_goals (go_at_call 62; with_reducible refine (c2 _).mono ?_; rintro e w2 ⟨rfl, hb⟩; exact ⟨rfl, hb⟩))); go_simp; (try go_bits); refine hK _ ?_; clear hK K) | (refine flowN_quiet rfl (by first | exact Nat.le_refl _ | (simp only [World.size_alloc]; omega) | omega) rfl rfl (fun K hK => ⟨?_, ?_⟩); (focus (intro w' hw'; have hc := (bcell hw').1; go_simp; all_goals (go_at_call 62; refine (c1 _).mono ?_; rintro e w2 ⟨rfl, hb⟩; exact ⟨rfl, hb⟩))); go_simp; (try go_bits); refine hK _ ?_; clear hK K) | (refine flowN_quiet rfl (by first | exact Nat.le_refl _ | (simp only [World.size_alloc]; omega) | omega) rfl rfl (fun K hK => ⟨?_, ?_⟩); (focus (intro w' hw'; have hc := (bcell hw').1; go_simp; all_goals (go_at_call 62; refine (c2 _).mono ?_; rintro e w2 ⟨rfl, hb⟩; exact ⟨rfl, hb⟩))); go_simp; (try go_bits); refine hK _ ?_; clear hK K)
    (refine flowN_quiet rfl (by first | exact Nat.le_refl _ | (simp only [World.size_alloc]; omega) | omega) rfl rfl (fun K hK => ⟨?_, ?_⟩); (focus (intro w' hw'; have hc := (bcell hw').1; go_simp; (try go_bits); all_goals (first | exact ⟨rfl, Below.refl _ _⟩ | exact Below.refl _ _))); go_simp; (try go_bits); refine hK _ ?_; clear hK K)
    first | (refine flowN_quiet rfl (by first | exact Nat.le_refl _ | (simp only [World.size_alloc]; omega) | omega) rfl rfl (fun K hK => ⟨?_, ?_⟩); (focus (intro w' hw'; have hc := (bcell hw').1; go_simp; all_goals (go_at_call 62; with_reducible refine (c1 _).mono ?_; rintro e w2 ⟨rfl, hb⟩; exact ⟨rfl, hb⟩))); go_simp; (try go_bits); refine hK _ ?_; clear hK K) | (refine flowN_quiet rfl (by first | exact Nat.le_refl _ | (simp only [World.size_alloc]; omega) | omega) rfl rfl (fun K hK => ⟨?_, ?_⟩); (focus (intro w' hw'; have hc := (bcell hw').1; go_simp; all_goals (go_at_call 62; with_reducible refine (c2 _).mono ?_; rintro e w2 ⟨rfl, hb⟩; exact ⟨rfl, hb⟩))); go_simp; (try go_bits); refine hK _ ?_; clear hK K) | (refine flowN_quiet rfl (by first | exact Nat.le_refl _ | (simp only [World.size_alloc]; omega) | omega) rfl rfl (fun K hK => ⟨?_, ?_⟩); (focus (intro w' hw'; have hc := (bcell hw').1; go_simp; all_goals (go_at_call 62; refine (c1 _).mono ?_; rintro e w2 ⟨rfl, hb⟩; exact ⟨rfl, hb⟩))); go_simp; (try go_bits); refine hK _ ?_; clear hK K) | (refine flowN_quiet rfl (by first | exact Nat.le_refl _ | (simp only [World.size_alloc]; omega) | omega) rfl rfl (fun K hK => ⟨?_, ?_⟩); (focus (intro w' hw'; have hc := (bcell hw').1; go_simp; all_goals (go_at_call 62; refine (c2 _).mono ?_; rintro e w2 ⟨rfl, hb⟩; exact ⟨rfl, hb⟩))); go_simp; (try go_bits); refine hK _ ?_; clear hK K)
    first | (refine flowN_quiet rfl (by first | exact Nat.le_refl _ | (simp only [World.size_alloc]; omega) | omega) rfl rfl (fun K hK => ⟨?_, ?_⟩); (focus (intro w' hw'; have hc := (bcell hw').1; go_simp; all_goals (go_at_call 19; with_reducible refine (c3 _).mono ?_; rintro e w2 ⟨rfl, hb⟩; exact ⟨rfl, hb⟩))); go_simp; (try go_bits); refine hK _ ?_; clear hK K) | (refine flowN_quiet rfl (by first | exact Nat.le_refl _ | (simp only [World.size_alloc]; omega) | omega) rfl rfl (fun K hK => ⟨?_, ?_⟩); (focus (intro w' hw'; have hc := (bcell hw').1; go_simp; all_goals (go_at_call 19; refine (c3 _).mono ?_; rintro e w2 ⟨rfl, hb⟩; exact ⟨rfl, hb⟩))); go_simp; (try go_bits); refine hK _ ?_; clear hK K)
    (refine flowN_new rfl (by first | exact Nat.le_refl _ | (simp only [World.size_alloc]; omega) | omega) (fun a w' => ?_) (fun K hK bx hbx => ?_); (focus (go_simp; done)); go_simp; (try go_bits); refine hK _ ?_; clear hK K)
    (refine flowN_store _ _ rfl rfl (by simp) rfl rfl (by kernel_rfl) rfl (by first | rfl | simp [Value.oneCell']) ?_; (try simp only [Act.put]))
    refine flowN_nil ?_
    intro w' hw'
    obtain ⟨z5, r5⟩ := box_word (d := 5) (n := D) hw' (by simp) rfl (by simp [updS]) rfl
    obtain ⟨q0, q1, q2, q3, qf⟩ := r5.cells
    obtain ⟨hb_w2, _⟩ := hw'
    have hlt5 := r5.lt
    have hc_w' := (bcell hb_w2).1; have hf_w' := (bcell hb_w2).2; have hz_w' : _ ≤ w'.heap.size := hb_w2.size; (try simp only [World.size_alloc, World.heap_drewN, World.size_setCell, heap_drew] at hc_w' hf_w' hz_w'); have hz_w'_w_0 : w.heap.size < w'.heap.size := (by omega); have hz_w'_w_1 : w.heap.size + 1 < w'.heap.size := (by omega); have hz_w'_w_2 : w.heap.size + 1 + 1 < w'.heap.size := (by omega)
    have hb5 : bx ≠ w.heap.size + 1 + 1 := (by omega)
    have hb6 : w.heap.size + 1 + 1 ≠ bx := (by omega)
    clear r5
    go_wp2
    refine wp_flow (fun k => ([1, 1, 1, 1, 1] : List Nat).getD k 1) (Below (w'.heap.size)) _ (Below.drew (Below.refl _ _)) (by kernel_rfl) (by kernel_rfl) ?_
    (refine flow_quiet rfl rfl (fun K hK => ?_); apply Exists.intro; apply And.intro; (focus (intro w' hw'; have hc := (bcell hw').1; go_simp; (try go_bits); all_goals (first | exact rfl | exact ⟨rfl, hw'⟩))); go_simp; (try go_bits); refine hK _ ?_; clear hK K)
    first | (refine flow_quiet rfl rfl (fun K hK => ?_); apply Exists.intro; apply And.intro; (focus (intro w' hw'; have hc := (bcell hw').1; go_simp; (try go_bits); all_goals (go_at_call 63; with_reducible refine (n1 _).mono ?_; rintro e w2 ⟨rfl, hb⟩; exact ⟨rfl, hw'.trans (hb.mono (below_le hw' (by simp)))⟩))); go_simp; (try go_bits); refine hK _ ?_; clear hK K) | (refine flow_quiet rfl rfl (fun K hK => ?_); apply Exists.intro; apply And.intro; (focus (intro w' hw'; have hc := (bcell hw').1; go_simp; (try go_bits); all_goals (go_at_call 63; with_reducible refine (n2 _).mono ?_; rintro e w2 ⟨rfl, hb⟩; exact ⟨rfl, hw'.trans (hb.mono (below_le hw' (by simp)))⟩))); go_simp; (try go_bits); refine hK _ ?_; clear hK K) | (refine flow_quiet rfl rfl (fun K hK => ?_); apply Exists.intro; apply And.intro; (focus (intro w' hw'; have hc := (bcell hw').1; go_simp; (try go_bits); all_goals (go_at_call 63; refine (n1 _).mono ?_; rintro e w2 ⟨rfl, hb⟩; exact ⟨rfl, hw'.trans (hb.mono (below_le hw' (by simp)))⟩))); go_simp; (try go_bits); refine hK _ ?_; clear hK K) | (refine flow_quiet rfl rfl (fun K hK => ?_); apply Exists.intro; apply And.intro; (focus (intro w' hw'; have hc := (bcell hw').1; go_simp; (try go_bits); all_goals (go_at_call 63; refine (n2 _).mono ?_; rintro e w2 ⟨rfl, hb⟩; exact ⟨rfl, hw'.trans (hb.mono (below_le hw' (by simp)))⟩))); go_simp; (try go_bits); refine hK _ ?_; clear hK K)
    (refine flow_quiet rfl rfl (fun K hK => ?_); apply Exists.intro; apply And.intro; (focus (intro w' hw'; have hc := (bcell hw').1; go_simp; (try go_bits); all_goals (first | exact rfl | exact ⟨rfl, hw'⟩))); go_simp; (try go_bits); refine hK _ ?_; clear hK K)
    first | (refine flow_quiet rfl rfl (fun K hK => ?_); apply Exists.intro; apply And.intro; (focus (intro w' hw'; have hc := (bcell hw').1; go_simp; (try go_bits); all_goals (go_at_call 63; with_reducible refine (n1 _).mono ?_; rintro e w2 ⟨rfl, hb⟩; exact ⟨rfl, hw'.trans (hb.mono (below_le hw' (by simp)))⟩))); go_simp; (try go_bits); refine hK _ ?_; clear hK K) | (refine flow_quiet rfl rfl (fun K hK => ?_); apply Exists.intro; apply And.intro; (focus (intro w' hw'; have hc := (bcell hw').1; go_simp; (try go_bits); all_goals (go_at_call 63; with_reducible refine (n2 _).mono ?_; rintro e w2 ⟨rfl, hb⟩; exact ⟨rfl, hw'.trans (hb.mono (below_le hw' (by simp)))⟩))); go_simp; (try go_bits); refine hK _ ?_; clear hK K) | (refine flow_quiet rfl rfl (fun K hK => ?_); apply Exists.intro; apply And.intro; (focus (intro w' hw'; have hc := (bcell hw').1; go_simp; (try go_bits); all_goals (go_at_call 63; refine (n1 _).mono ?_; rintro e w2 ⟨rfl, hb⟩; exact ⟨rfl, hw'.trans (hb.mono (below_le hw' (by simp)))⟩))); go_simp; (try go_bits); refine hK _ ?_; clear hK K) | (refine flow_quiet rfl rfl (fun K hK => ?_); apply Exists.intro; apply And.intro; (focus (intro w' hw'; have hc := (bcell hw').1; go_simp; (try go_bits); all_goals (go_at_call 63; refine (n2 _).mono ?_; rintro e w2 ⟨rfl, hb⟩; exact ⟨rfl, hw'.trans (hb.mono (below_le hw' (by simp)))⟩))); go_simp; (try go_bits); refine hK _ ?_; clear hK K)
    (refine flow_quiet rfl rfl (fun K hK => ?_); apply Exists.intro; apply And.intro; (focus (intro w' hw'; have hc := (bcell hw').1; go_simp; (try go_bits); all_goals (first | exact rfl | exact ⟨rfl, hw'⟩))); go_simp; (try go_bits); refine hK _ ?_; clear hK K)
    refine flow_nil ?_
    intro wq hb_wq
    have hc_wq := (bcell hb_wq).1; have hf_wq := (bcell hb_wq).2; have hz_wq : _ ≤ wq.heap.size := hb_wq.size; (try simp only [World.size_alloc, World.heap_drewN, World.size_setCell, heap_drew] at hc_wq hf_wq hz_wq); have hz_wq_w_0 : w.heap.size < wq.heap.size := (by omega); have hz_wq_w_1 : w.heap.size + 1 < wq.heap.size := (by omega); have hz_wq_w_2 : w.heap.size + 1 + 1 < wq.heap.size := (by omega)
    go_wp2_with (go_at_call 32; with_reducible refine (c4 _).mono ?_; rintro e ws ⟨rfl, hb_ws⟩; have hc_ws := (bcell hb_ws).1; have hf_ws := (bcell hb_ws).2; have hz_ws : _ ≤ ws.heap.size := hb_ws.size; (try simp only [World.size_alloc, World.heap_drewN, World.size_setCell, heap_drew] at hc_ws hf_ws hz_ws); have hz_ws_w_0 : w.heap.size < ws.heap.size := (by omega); have hz_ws_w_1 : w.heap.size + 1 < ws.heap.size := (by omega); have hz_ws_w_2 : w.heap.size + 1 + 1 < ws.heap.size := (by omega))
    refine bodyPost_ret (by simp only [results, Try.results23]; go_simp) rfl ⟨rfl, ?_⟩
    repeat (with_reducible first | exact Below.refl _ _ | assumption | refine below_drewN ?_ _ | refine Below.drew ?_ | refine below_setRow' ?_ (by first | omega | (simp; done) | (simp; omega)) _ | refine Below.setCell ?_ (by first | omega | (simp; done) | (simp; omega)) _ | refine Below.alloc ?_ (by first | omega | (simp; done) | (simp; omega)) _ | refine Below.trans ?_ (Below.mono (by assumption) (by first | omega | (simp; done) | (simp; omega))))

set_option maxHeartbeats 4000000 in
theorem ref_SMod (a b : Nat) (ha : a < Q256) (hb : b < Q256) (w : World) :
    Calls Try.prog 25 #[W4 a, W4 b] w fun e w' => e = .returned (W4 (smodW a b)) ∧ Below w.heap.size w w' := by
  have ta := tnd_lt ha (negB a)
  have tb := tnd_lt hb (negB b)
  have td := modW_lt (b := tnd b (negB b)) ta
  unfold smodW
  have n1 := fun W => ref_negative a ha W
  have n2 := fun W => ref_negative b hb W
  have c1 := fun W => ref_size a ha W
  have c2 := fun W => ref_size b hb W
  generalize negB a = na at *
  generalize negB b = nb at *
  generalize tnd a na = A at *
  generalize tnd b nb = B at *
  have c3 := fun W => ref_Mod A B ta tb W
  generalize modW A B = D at *
  have c4 : ∀ W, Calls Try.prog 32 #[.agg #[.int .u64 0, .int .u64 0, .int .u64 0, .int .u64 0], W4 D] W fun e w' => e = .returned (W4 (tnd D true)) ∧ Below W.heap.size W w' := fun W => by
    have := ref_Sub 0 D Q256_pos td W
    rw [W4_zero, Nat.zero_add, ← tnd_true] at this
    exact this
  have h0 := tnd_false D
  clear n2
  cases na
  · rw [h0]
    clear h0 c4
    go_enter Try.func25, Try.ntmps25
    go_wp2
    refine wp_flowN (fun k => ([1, 1, 1, 1, 1, 3, 2] : List Nat).getD k 1) [5] (fun _ => 24) (fun k => ([W4 a, W4 A, W4 b, W4 B, W4 D, undef, undef] : List Value).getD k undef) (fun _ => #[.int .u64 0, .int .u64 0, .int .u64 0, .int .u64 0]) (w.heap.size + 3) ?_ (by kernel_rfl) (by kernel_rfl) ?_
    focus (intro d hd; simp only [List.mem_cons, List.not_mem_nil, or_false] at hd; rcases hd with rfl <;> rfl)
    (refine flowN_quiet rfl (by first | exact Nat.le_refl _ | (simp only [World.size_alloc]; omega) | omega) rfl rfl (fun K hK => ⟨?_, ?_⟩); (focus (intro w' hw'; have hc := (bcell hw').1; go_simp; (try go_bits); all_goals (first | exact ⟨rfl, Below.refl _ _⟩ | exact Below.refl _ _))); go_simp; (try go_bits); refine hK _ ?_; clear hK K)
    first | (refine flowN_quiet rfl (by first | exact Nat.le_refl _ | (simp only [World.size_alloc]; omega) | omega) rfl rfl (fun K hK => ⟨?_, ?_⟩); (focus (intro w' hw'; have hc := (bcell hw').1; go_simp; all_goals (go_at_call 62; with_reducible refine (c1 _).mono ?_; rintro e w2 ⟨rfl, hb⟩; exact ⟨rfl, hb⟩))); go_simp; (try go_bits); refine hK _ ?_; clear hK K) | (refine flowN_quiet rfl (by first | exact Nat.le_refl _ | (simp only [World.size_alloc]; omega) | omega) rfl rfl (fun K hK => ⟨?_, ?_⟩); (focus (intro w' hw'; have hc := (bcell hw').1; go_simp; all_goals (go_at_call 62; with_reducible refine (c2 _).mono ?_; rintro e w2 ⟨rfl, hb⟩; exact ⟨rfl, hb⟩))); go_simp; (try go_bits); refine hK _ ?_; clear hK K) | (refine flowN_quiet rfl (by first | exact Nat.le_refl _ | (simp only [World.size_alloc]; omega) | omega) rfl rfl (fun K hK => ⟨?_, ?_⟩); (focus (intro w' hw'; have hc := (bcell hw').1; go_simp; all_goals (go_at_call 62; refine (c1 _).mono ?_; rintro e w2 ⟨rfl, hb⟩; exact ⟨rfl, hb⟩))); go_simp; (try go_bits); refine hK _ ?_; clear hK K) | (refine flowN_quiet rfl (by first | exact Nat.le_refl _ | (simp only [World.size_alloc]; omega) | omega) rfl rfl (fun K hK => ⟨?_, ?_⟩); (focus (intro w' hw'; have hc := (bcell hw').1; go_simp; all_goals (go_at_call 62; refine (c2 _).mono ?_; rintro e w2 ⟨rfl, hb⟩; exact ⟨rfl, hb⟩))); go_simp; (try go_bits); refine hK _ ?_; clear hK K)
    (refine flowN_quiet rfl (by first | exact Nat.le_refl _ | (simp only [World.size_alloc]; omega) | omega) rfl rfl (fun K hK => ⟨?_, ?_⟩); (focus (intro w' hw'; have hc := (bcell hw').1; go_simp; (try go_bits); all_goals (first | exact ⟨rfl, Below.refl _ _⟩ | exact Below.refl _ _))); go_simp; (try go_bits); refine hK _ ?_; clear hK K)
    first | (refine flowN_quiet rfl (by first | exact Nat.le_refl _ | (simp only [World.size_alloc]; omega) | omega) rfl rfl (fun K hK => ⟨?_, ?_⟩); (focus (intro w' hw'; have hc := (bcell hw').1; go_simp; all_goals (go_at_call 62; with_reducible refine (c1 _).mono ?_; rintro e w2 ⟨rfl, hb⟩; exact ⟨rfl, hb⟩))); go_simp; (try go_bits); refine hK _ ?_; clear hK K) | (refine flowN_quiet rfl (by first | exact Nat.le_refl _ | (simp only [World.size_alloc]; omega) | omega) rfl rfl (fun K hK => ⟨?_, ?_⟩); (focus (intro w' hw'; have hc := (bcell hw').1; go_simp; all_goals (go_at_call 62; with_reducible refine (c2 _).mono ?_; rintro e w2 ⟨rfl, hb⟩; exact ⟨rfl, hb⟩))); go_simp; (try go_bits); refine hK _ ?_; clear hK K) | (refine flowN_quiet rfl (by first | exact Nat.le_refl _ | (simp only [World.size_alloc]; omega) | omega) rfl rfl (fun K hK => ⟨?_, ?_⟩); (focus (intro w' hw'; have hc := (bcell hw').1; go_simp; all_goals (go_at_call 62; refine (c1 _).mono ?_; rintro e w2 ⟨rfl, hb⟩; exact ⟨rfl, hb⟩))); go_simp; (try go_bits); refine hK _ ?_; clear hK K) | (refine flowN_quiet rfl (by first | exact Nat.le_refl _ | (simp only [World.size_alloc]; omega) | omega) rfl rfl (fun K hK => ⟨?_, ?_⟩); (focus (intro w' hw'; have hc := (bcell hw').1; go_simp; all_goals (go_at_call 62; refine (c2 _).mono ?_; rintro e w2 ⟨rfl, hb⟩; exact ⟨rfl, hb⟩))); go_simp; (try go_bits); refine hK _ ?_; clear hK K)
    first | (refine flowN_quiet rfl (by first | exact Nat.le_refl _ | (simp only [World.size_alloc]; omega) | omega) rfl rfl (fun K hK => ⟨?_, ?_⟩); (focus (intro w' hw'; have hc := (bcell hw').1; go_simp; all_goals (go_at_call 21; with_reducible refine (c3 _).mono ?_; rintro e w2 ⟨rfl, hb⟩; exact ⟨rfl, hb⟩))); go_simp; (try go_bits); refine hK _ ?_; clear hK K) | (refine flowN_quiet rfl (by first | exact Nat.le_refl _ | (simp only [World.size_alloc]; omega) | omega) rfl rfl (fun K hK => ⟨?_, ?_⟩); (focus (intro w' hw'; have hc := (bcell hw').1; go_simp; all_goals (go_at_call 21; refine (c3 _).mono ?_; rintro e w2 ⟨rfl, hb⟩; exact ⟨rfl, hb⟩))); go_simp; (try go_bits); refine hK _ ?_; clear hK K)
    (refine flowN_new rfl (by first | exact Nat.le_refl _ | (simp only [World.size_alloc]; omega) | omega) (fun a w' => ?_) (fun K hK bx hbx => ?_); (focus (go_simp; done)); go_simp; (try go_bits); refine hK _ ?_; clear hK K)
    (refine flowN_store _ _ rfl rfl (by simp) rfl rfl (by kernel_rfl) rfl (by first | rfl | simp [Value.oneCell']) ?_; (try simp only [Act.put]))
    refine flowN_nil ?_
    intro w' hw'
    obtain ⟨z5, r5⟩ := box_word (d := 5) (n := D) hw' (by simp) rfl (by simp [updS]) rfl
    obtain ⟨q0, q1, q2, q3, qf⟩ := r5.cells
    obtain ⟨hb_w2, _⟩ := hw'
    have hlt5 := r5.lt
    have hc_w' := (bcell hb_w2).1; have hf_w' := (bcell hb_w2).2; have hz_w' : _ ≤ w'.heap.size := hb_w2.size; (try simp only [World.size_alloc, World.heap_drewN, World.size_setCell, heap_drew] at hc_w' hf_w' hz_w'); have hz_w'_w_0 : w.heap.size < w'.heap.size := (by omega); have hz_w'_w_1 : w.heap.size + 1 < w'.heap.size := (by omega); have hz_w'_w_2 : w.heap.size + 1 + 1 < w'.heap.size := (by omega)
    have hb5 : bx ≠ w.heap.size + 1 + 1 := (by omega)
    have hb6 : w.heap.size + 1 + 1 ≠ bx := (by omega)
    clear r5
    go_wp2_with (go_at_call 63; with_reducible refine (n1 _).mono ?_; rintro e wq ⟨rfl, hb_wq⟩; have hc_wq := (bcell hb_wq).1; have hf_wq := (bcell hb_wq).2; have hz_wq : _ ≤ wq.heap.size := hb_wq.size; (try simp only [World.size_alloc, World.heap_drewN, World.size_setCell, heap_drew] at hc_wq hf_wq hz_wq); have hz_wq_w_0 : w.heap.size < wq.heap.size := (by omega); have hz_wq_w_1 : w.heap.size + 1 < wq.heap.size := (by omega); have hz_wq_w_2 : w.heap.size + 1 + 1 < wq.heap.size := (by omega))
    refine bodyPost_ret (by simp only [results, Try.results25]; go_simp) rfl ⟨rfl, ?_⟩
    repeat (with_reducible first | exact Below.refl _ _ | assumption | refine below_drewN ?_ _ | refine Below.drew ?_ | refine below_setRow' ?_ (by first | omega | (simp; done) | (simp; omega)) _ | refine Below.setCell ?_ (by first | omega | (simp; done) | (simp; omega)) _ | refine Below.alloc ?_ (by first | omega | (simp; done) | (simp; omega)) _ | refine Below.trans ?_ (Below.mono (by assumption) (by first | omega | (simp; done) | (simp; omega))))
  · generalize tnd D true = R at *
    clear h0
    go_enter Try.func25, Try.ntmps25
    go_wp2
    refine wp_flowN (fun k => ([1, 1, 1, 1, 1, 3, 2] : List Nat).getD k 1) [5] (fun _ => 24) (fun k => ([W4 a, W4 A, W4 b, W4 B, W4 D, undef, undef] : List Value).getD k undef) (fun _ => #[.int .u64 0, .int .u64 0, .int .u64 0, .int .u64 0]) (w.heap.size + 3) ?_ (by kernel_rfl) (by kernel_rfl) ?_
    focus (intro d hd; simp only [List.mem_cons, List.not_mem_nil, or_false] at hd; rcases hd with rfl <;> rfl)
    (refine flowN_quiet rfl (by first | exact Nat.le_refl _ | (simp only [World.size_alloc]; omega) | omega) rfl rfl (fun K hK => ⟨?_, ?_⟩); (focus (intro w' hw'; have hc := (bcell hw').1; go_simp; (try go_bits); all_goals (first | exact ⟨rfl, Below.refl _ _⟩ | exact Below.refl _ _))); go_simp; (try go_bits); refine hK _ ?_; clear hK K)
    first | (refine flowN_quiet rfl (by first | exact Nat.le_refl _ | (simp only [World.size_alloc]; omega) | omega) rfl rfl (fun K hK => ⟨?_, ?_⟩); (focus (intro w' hw'; have hc := (bcell hw').1; go_simp; all_goals (go_at_call 62; with_reducible refine (c1 _).mono ?_; rintro e w2 ⟨rfl, hb⟩; exact ⟨rfl, hb⟩))); go_simp; (try go_bits); refine hK _ ?_; clear hK K) | (refine flowN_quiet rfl (by first | exact Nat.le_refl _ | (simp only [World.size_alloc]; omega) | omega) rfl rfl (fun K hK => ⟨?_, ?_⟩); (focus (intro w' hw'; have hc := (bcell hw').1; go_simp; all_goals (go_at_call 62; with_reducible refine (c2 _).mono ?_; rintro e w2 ⟨rfl, hb⟩; exact ⟨rfl, hb⟩))); go_simp; (try go_bits); refine hK _ ?_; clear hK K) | (refine flowN_quiet rfl (by first | exact Nat.le_refl _ | (simp only [World.size_alloc]; omega) | omega) rfl rfl (fun K hK => ⟨?_, ?_⟩); (focus (intro w' hw'; have hc := (bcell hw').1; go_simp; all_goals (go_at_call 62; refine (c1 _).mono ?_; rintro e w2 ⟨rfl, hb⟩; exact ⟨rfl, hb⟩))); go_simp; (try go_bits); refine hK _ ?_; clear hK K) | (refine flowN_quiet rfl (by first | exact Nat.le_refl _ | (simp only [World.size_alloc]; omega) | omega) rfl rfl (fun K hK => ⟨?_, ?_⟩); (focus (intro w' hw'; have hc := (bcell hw').1; go_simp; all_goals (go_at_call 62; refine (c2 _).mono ?_; rintro e w2 ⟨rfl, hb⟩; exact ⟨rfl, hb⟩))); go_simp; (try go_bits); refine hK _ ?_; clear hK K)
    (refine flowN_quiet rfl (by first | exact Nat.le_refl _ | (simp only [World.size_alloc]; omega) | omega) rfl rfl (fun K hK => ⟨?_, ?_⟩); (focus (intro w' hw'; have hc := (bcell hw').1; go_simp; (try go_bits); all_goals (first | exact ⟨rfl, Below.refl _ _⟩ | exact Below.refl _ _))); go_simp; (try go_bits); refine hK _ ?_; clear hK K)
    first | (refine flowN_quiet rfl (by first | exact Nat.le_refl _ | (simp only [World.size_alloc]; omega) | omega) rfl rfl (fun K hK => ⟨?_, ?_⟩); (focus (intro w' hw'; have hc := (bcell hw').1; go_simp; all_goals (go_at_call 62; with_reducible refine (c1 _).mono ?_; rintro e w2 ⟨rfl, hb⟩; exact ⟨rfl, hb⟩))); go_simp; (try go_bits); refine hK _ ?_; clear hK K) | (refine flowN_quiet rfl (by first | exact Nat.le_refl _ | (simp only [World.size_alloc]; omega) | omega) rfl rfl (fun K hK => ⟨?_, ?_⟩); (focus (intro w' hw'; have hc := (bcell hw').1; go_simp; all_goals (go_at_call 62; with_reducible refine (c2 _).mono ?_; rintro e w2 ⟨rfl, hb⟩; exact ⟨rfl, hb⟩))); go_simp; (try go_bits); refine hK _ ?_; clear hK K) | (refine flowN_quiet rfl (by first | exact Nat.le_refl _ | (simp only [World.size_alloc]; omega) | omega) rfl rfl (fun K hK => ⟨?_, ?_⟩); (focus (intro w' hw'; have hc := (bcell hw').1; go_simp; all_goals (go_at_call 62; refine (c1 _).mono ?_; rintro e w2 ⟨rfl, hb⟩; exact ⟨rfl, hb⟩))); go_simp; (try go_bits); refine hK _ ?_; clear hK K) | (refine flowN_quiet rfl (by first | exact Nat.le_refl _ | (simp only [World.size_alloc]; omega) | omega) rfl rfl (fun K hK => ⟨?_, ?_⟩); (focus (intro w' hw'; have hc := (bcell hw').1; go_simp; all_goals (go_at_call 62; refine (c2 _).mono ?_; rintro e w2 ⟨rfl, hb⟩; exact ⟨rfl, hb⟩))); go_simp; (try go_bits); refine hK _ ?_; clear hK K)
    first | (refine flowN_quiet rfl (by first | exact Nat.le_refl _ | (simp only [World.size_alloc]; omega) | omega) rfl rfl (fun K hK => ⟨?_, ?_⟩); (focus (intro w' hw'; have hc := (bcell hw').1; go_simp; all_goals (go_at_call 21; with_reducible refine (c3 _).mono ?_; rintro e w2 ⟨rfl, hb⟩; exact ⟨rfl, hb⟩))); go_simp; (try go_bits); refine hK _ ?_; clear hK K) | (refine flowN_quiet rfl (by first | exact Nat.le_refl _ | (simp only [World.size_alloc]; omega) | omega) rfl rfl (fun K hK => ⟨?_, ?_⟩); (focus (intro w' hw'; have hc := (bcell hw').1; go_simp; all_goals (go_at_call 21; refine (c3 _).mono ?_; rintro e w2 ⟨rfl, hb⟩; exact ⟨rfl, hb⟩))); go_simp; (try go_bits); refine hK _ ?_; clear hK K)
    (refine flowN_new rfl (by first | exact Nat.le_refl _ | (simp only [World.size_alloc]; omega) | omega) (fun a w' => ?_) (fun K hK bx hbx => ?_); (focus (go_simp; done)); go_simp; (try go_bits); refine hK _ ?_; clear hK K)
    (refine flowN_store _ _ rfl rfl (by simp) rfl rfl (by kernel_rfl) rfl (by first | rfl | simp [Value.oneCell']) ?_; (try simp only [Act.put]))
    refine flowN_nil ?_
    intro w' hw'
    obtain ⟨z5, r5⟩ := box_word (d := 5) (n := D) hw' (by simp) rfl (by simp [updS]) rfl
    obtain ⟨q0, q1, q2, q3, qf⟩ := r5.cells
    obtain ⟨hb_w2, _⟩ := hw'
    have hlt5 := r5.lt
    have hc_w' := (bcell hb_w2).1; have hf_w' := (bcell hb_w2).2; have hz_w' : _ ≤ w'.heap.size := hb_w2.size; (try simp only [World.size_alloc, World.heap_drewN, World.size_setCell, heap_drew] at hc_w' hf_w' hz_w'); have hz_w'_w_0 : w.heap.size < w'.heap.size := (by omega); have hz_w'_w_1 : w.heap.size + 1 < w'.heap.size := (by omega); have hz_w'_w_2 : w.heap.size + 1 + 1 < w'.heap.size := (by omega)
    have hb5 : bx ≠ w.heap.size + 1 + 1 := (by omega)
    have hb6 : w.heap.size + 1 + 1 ≠ bx := (by omega)
    clear r5
    go_wp2_with (first | (go_at_call 63; with_reducible refine (n1 _).mono ?_; rintro e wq ⟨rfl, hb_wq⟩; have hc_wq := (bcell hb_wq).1; have hf_wq := (bcell hb_wq).2; have hz_wq : _ ≤ wq.heap.size := hb_wq.size; (try simp only [World.size_alloc, World.heap_drewN, World.size_setCell, heap_drew] at hc_wq hf_wq hz_wq); have hz_wq_w_0 : w.heap.size < wq.heap.size := (by omega); have hz_wq_w_1 : w.heap.size + 1 < wq.heap.size := (by omega); have hz_wq_w_2 : w.heap.size + 1 + 1 < wq.heap.size := (by omega)) | (go_at_call 32; with_reducible refine (c4 _).mono ?_; rintro e ws ⟨rfl, hb_ws⟩; have hc_ws := (bcell hb_ws).1; have hf_ws := (bcell hb_ws).2; have hz_ws : _ ≤ ws.heap.size := hb_ws.size; (try simp only [World.size_alloc, World.heap_drewN, World.size_setCell, heap_drew] at hc_ws hf_ws hz_ws); have hz_ws_w_0 : w.heap.size < ws.heap.size := (by omega); have hz_ws_w_1 : w.heap.size + 1 < ws.heap.size := (by omega); have hz_ws_w_2 : w.heap.size + 1 + 1 < ws.heap.size := (by omega)))
    refine bodyPost_ret (by simp only [results, Try.results25]; go_simp) rfl ⟨rfl, ?_⟩
    repeat (with_reducible first | exact Below.refl _ _ | assumption | refine below_drewN ?_ _ | refine Below.drew ?_ | refine below_setRow' ?_ (by first | omega | (simp; done) | (simp; omega)) _ | refine Below.setCell ?_ (by first | omega | (simp; done) | (simp; omega)) _ | refine Below.alloc ?_ (by first | omega | (simp; done) | (simp; omega)) _ | refine Below.trans ?_ (Below.mono (by assumption) (by first | omega | (simp; done) | (simp; omega))))
end Go.Proofs.Ytmegpggpndjjcaa
