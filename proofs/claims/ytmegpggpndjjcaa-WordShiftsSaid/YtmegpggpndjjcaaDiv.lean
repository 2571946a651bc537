/-
  The contract of word.divided: quotient and remainder of a number that lies in a row of words. Conditions: none.
-/
import Derived.Test.YtmegpggpndjjcaaW2
import Derived.Test.YtmegpggpndjjcaaIter
import Derived.Test.YtmegpggpndjjcaaDivM
import Derived.Test.YtmegpggpndjjcaaFlow2
namespace Go.Proofs.Ytmegpggpndjjcaa
open Go.RowKit Go.Shelf
attribute [local go_sem] Oper.semAt_some
attribute [local go_sem] leftBy
set_option linter.unusedSimpArgs false

theorem set_or {q i : Nat} (hi : i < 256) :
    (#[.int .u64 (lb q 0 : Nat), .int .u64 (lb q 1 : Nat), .int .u64 (lb q 2 : Nat), .int .u64 (lb q 3 : Nat)] : Array Value).setIfInBounds (i / 64) (.int .u64 (lb (q ||| 2 ^ i) (i / 64) : Nat)) =
      #[.int .u64 (lb (q ||| 2 ^ i) 0 : Nat), .int .u64 (lb (q ||| 2 ^ i) 1 : Nat), .int .u64 (lb (q ||| 2 ^ i) 2 : Nat), .int .u64 (lb (q ||| 2 ^ i) 3 : Nat)] := by
  have hc : i / 64 = 0 ∨ i / 64 = 1 ∨ i / 64 = 2 ∨ i / 64 = 3 := by omega
  have e : ∀ j, j ≠ i / 64 → lb (q ||| 2 ^ i) j = lb q j := fun j hj => by rw [lb_or_pow, if_neg hj]
  rcases hc with h | h | h | h
  · rw [h, e 1 (by omega), e 2 (by omega), e 3 (by omega)]; rfl
  · rw [h, e 0 (by omega), e 2 (by omega), e 3 (by omega)]; rfl
  · rw [h, e 0 (by omega), e 1 (by omega), e 3 (by omega)]; rfl
  · rw [h, e 0 (by omega), e 1 (by omega), e 2 (by omega)]; rfl

/-- The two boxes of the division. -/
def divC (b Bq Br : Nat) (pre : List PB) (W : World) : Prop :=
  rowW 24 W Bq (pre.foldl (dstep b) (0, 0)).1 ∧ rowW 24 W Br (pre.foldl (dstep b) (0, 0)).2

theorem or_row {t : TypeId} {W : World} {k q i : Nat} (hi : i < 256) (h : rowW t W k q) : rowW t (W.setCell ⟨k, i / 64, none⟩ (.int .u64 (lb (q ||| 2 ^ i) (i / 64) : Nat))) k (q ||| 2 ^ i) := by
  have := store1 h (i / 64) (.int .u64 (lb (q ||| 2 ^ i) (i / 64) : Nat))
  rw [set_or hi] at this
  exact this

set_option maxRecDepth 100000 in
set_option maxHeartbeats 4000000 in
theorem divided_any (L A b x : Nat) (hL : 1 ≤ L) (hL8 : L ≤ 8) (hb0 : 0 < b) (hb : b < Q256) (hx : x < 2 ^ (64 * L)) (w : World) (hA : A < w.heap.size) (hc : ∀ j, j < L → w.cell? ⟨A, j, none⟩ = some (.int .u64 (lb x j : Nat))) :
    Calls Try.prog 57 #[.slice (some ⟨A, 0, none⟩) L L, W4 b] w fun e w' => e = .returned (.tuple #[W4 (x / b % Q256), W4 (x % b)]) ∧ Below w.heap.size w w' := by
  refine calls_FW (n := 9) ?_
  refine callsIn_of_wp_marks Try.func57 rfl trivial ?_ rfl
  simp only [Try.ntmps57, List.size_toArray, List.length_cons, List.length_nil, Nat.reduceAdd, Nat.reduceSub, Array.replicate_succ, Array.replicate_zero, List.push_toArray, List.append_toArray, List.nil_append, List.cons_append]
  gi_wp2_with (gi_at_call 71; refine (callsIn_FW (ones_any _ _ _ _ rfl _)).mono ?_; rintro e w' ⟨rfl, rfl⟩)
  refine range_fr (n := 9) (by omega) (gf := 79) (lb := #[.pointer (some ⟨w.heap.size + 1 + 1 + 1 + 1 + 1, 0, none⟩)]) rfl (enters_of Try.func79 (by kernel_rfl) rfl)
    (ones_stops (9 - 1) L hL hL8 (by omega) (w.heap.size + 1 + 1 + 1 + 1 + 1) A x hx _ ?p1 ?p2 ?p3 ?p4) (fun _ => rfl) (fun k => k = w.heap.size + 1 + 1 + 1 ∨ k = w.heap.size + 1 + 1 + 1 + 1) ?p5 ?p6 ?p7 ?p8 ?p9
    (divC b (w.heap.size + 1 + 1 + 1) (w.heap.size + 1 + 1 + 1 + 1)) ?p10 ?p11
    (fun p a => (((a.put (some 14) (.int .i64 (p.val.1 : Nat))).put (some 15) (.int .u64 (p.val.2 : Nat))).put (some 8) (.int .i64 (p.val.1 : Nat))).put (some 9) (.int .u64 (p.val.2 : Nat))) ?assign ?body ?done
  case p1 => simp only [World.size_alloc]; omega
  case p2 => simp only [World.size_alloc]; omega
  case p3 => exact cell_of_row _ _ 0 _ _ _ (heap_new (by simp only [World.size_alloc]))
  case p4 =>
    intro j hj
    rw [← hc j hj]
    refine ((((((Below.refl w.heap.size w).alloc (Nat.le_refl _) _).alloc (by simp only [World.size_alloc]; omega) _).alloc (by simp only [World.size_alloc]; omega) _).alloc (by simp only [World.size_alloc]; omega) _).alloc (by simp only [World.size_alloc]; omega) _).alloc (by simp only [World.size_alloc]; omega) _ |>.cell (p := ⟨A, j, none⟩) hA
  case p5 => intro k hk; simp only [World.size_alloc]; rcases hk with h | h <;> omega
  case p6 => rintro (h | h) <;> omega
  case p7 => rintro (h | h) <;> omega
  case p8 => simp only [World.size_alloc]; omega
  case p9 => simp only [World.size_alloc]; omega
  case p10 =>
    rintro pre X Y ⟨h1, h2⟩ hs
    exact ⟨(hs _ (.inl rfl)).trans h1, (hs _ (.inr rfl)).trans h2⟩
  case p11 =>
    constructor
    · exact ((rowW.new0 (by simp only [World.size_alloc])).alloc _).alloc _
    · exact (rowW.new0 (by simp only [World.size_alloc])).alloc _
  case assign =>
    intro l p X K hK
    gi_wp2
    exact hK
  case body =>
    intro l pre p X hC hfr hlen
    obtain ⟨hq, hr⟩ := hC
    have hok := dfold_ok pre (0, 0) Q256_pos hb0
    have hz := hfr.size
    simp only [World.size_alloc] at hz
    have hbx : rowW 24 X w.heap.size b :=
      (hfr.block _ (by simp only [World.size_alloc]; omega) (by rintro (h | h) <;> omega)).trans ((((((rowW.new rfl).alloc _).alloc _).alloc _).alloc _).alloc _)
    clear hfr
    have hstep : (pre ++ [p]).foldl (dstep b) (0, 0) = dstep b (pre.foldl (dstep b) (0, 0)) p := by rw [List.foldl_append]; rfl
    unfold divC
    rw [hstep]
    clear hstep
    generalize pre.foldl (dstep b) (0, 0) = s at *
    obtain ⟨q, r⟩ := s
    obtain ⟨⟨i, t⟩, hi, ht⟩ := p
    simp only at hq hr hok hi ht ⊢
    obtain ⟨q0, q1, q2, q3, qf⟩ := hq.cells
    obtain ⟨r0, r1, r2, r3, rf⟩ := hr.cells
    obtain ⟨b0, b1, b2, b3, bf⟩ := hbx.cells
    have hz0 : w.heap.size < X.heap.size := by omega
    have hz3 : w.heap.size + 1 + 1 + 1 < X.heap.size := by omega
    have hz4 : w.heap.size + 1 + 1 + 1 + 1 < X.heap.size := by omega
    have hrQ : r < Q256 := Nat.lt_trans hok.2 hb
    obtain ⟨E, hE⟩ : ∃ E, E = (r + r) % Q256 := ⟨_, rfl⟩
    obtain ⟨c, hcE⟩ : ∃ c, c = (r + r) / Q256 := ⟨_, rfl⟩
    have hsum : ∀ W, Calls Try.prog 55 #[W4 r, W4 r] W fun e w' => e = .returned (.tuple #[W4 E, .int .u64 (c : Nat)]) ∧ Below W.heap.size W w' := fun W => by
      rw [hE, hcE]; exact sum_any r r hrQ hrQ W
    have hEc : E + Q256 * c = 2 * r := by rw [hE, hcE, Nat.mod_add_div]; omega
    have hElt : E < Q256 := by rw [hE]; exact Nat.mod_lt _ Q256_pos
    have hc1 : c ≤ 1 := by unfold Q256 at *; omega
    have hE2 : E % 2 = 0 := by
      unfold Q256 at *
      omega
    obtain ⟨o0, o1, o2, o3, hT⟩ := lb_or_bit hElt hE2 ht
    obtain ⟨Tt, hTt⟩ : ∃ T, T = E + t := ⟨_, rfl⟩
    rw [← hTt] at o0 o1 o2 o3 hT
    have hor : bits .or .u64 ((lb E 0 : Nat) : Int) ((t : Nat) : Int) = ((lb Tt 0 : Nat) : Int) := by
      rw [u64_or_nat _ _ (lb_lt E 0) (by omega), o0]
    have hval : 2 * r + t = Tt + Q256 * c := by omega
    have HV := Lib.hid hval
    clear hval hEc hE hcE hE2 hElt hTt o0
    by_cases hle : b ≤ 2 * r + t
    · have hU : (Tt + Q256 - b) % Q256 = 2 * r + t - b := by
        have := HV.out
        have h2 := hok.2
        unfold Q256 at *
        omega
      obtain ⟨U, hUe⟩ : ∃ U, U = (Tt + Q256 - b) % Q256 := ⟨_, rfl⟩
      have hsub : ∀ W, Calls Try.prog 31 #[W4 Tt, W4 b] W fun e w' => e = .returned (W4 U) ∧ Below W.heap.size W w' := fun W => by
        rw [hUe]; exact Sub_any Tt b hT hb W
      rw [← hUe] at hU
      have hc01 : c = 0 ∨ c = 1 := by omega
      have hlen' : True := trivial
      by_cases h256 : i < 256
      · obtain ⟨q', hq'⟩ : ∃ q', q' = q ||| 2 ^ i := ⟨_, rfl⟩
        have hds : dstep b (q, r) ⟨(i, t), hi, ht⟩ = (q', U) := by
          unfold dstep
          rw [if_pos hle]
          simp only [if_pos h256, hU, hq']
        rw [hds]
        have qi : X.cell? ⟨w.heap.size + 1 + 1 + 1, i / 64, none⟩ = some (.int .u64 (lb q (i / 64) : Nat)) := hq.cellAt (by omega)
        have hor2 : bits .or .u64 ((lb q (i / 64) : Nat) : Int) (IntKind.u64.wrap (2 ^ (i % 64))) = ((lb q' (i / 64) : Nat) : Int) := by
          have h2 : 2 ^ (i % 64) < 18446744073709551616 := (Nat.pow_lt_pow_right (by decide) (show i % 64 < 64 by omega) : 2 ^ (i % 64) < 2 ^ 64)
          have h3 : IntKind.u64.wrap ((2 : Int) ^ (i % 64)) = ((2 ^ (i % 64) : Nat) : Int) := by
            have e : ((2 : Int) ^ (i % 64)) = ((2 ^ (i % 64) : Nat) : Int) := by push_cast; rfl
            have h4 : ∀ z : Nat, z < 18446744073709551616 → IntKind.u64.wrap (z : Int) = (z : Int) := fun z hz => IntWalk.u64_in _ (by omega)
            rw [e]
            exact h4 _ h2
          rw [h3, u64_or_nat _ _ (lb_lt _ _) h2, hq', lb_or_pow, if_pos rfl]
        have hi1 : 0 ≤ (i : Int) / 64 := by omega
        have hi2 : (i : Int) / 64 < 4 := by omega
        have hi3 : ((i : Int) / 64).toNat = i / 64 := by omega
        have hi4 : 0 ≤ (i : Int) % 64 := by omega
        have hi5 : (i : Int) % 64 ≤ 64 := by omega
        have hi6 : ((i : Int) % 64).toNat = i % 64 := by omega
        subst hq'
        rcases hc01 with rfl | rfl
        · skip
          have hless : ∀ W, Calls Try.prog 15 #[W4 Tt, W4 b] W fun e w' => e = .returned (.bool false) ∧ Below W.heap.size W w' := fun W => by
            have := Less_any Tt b hT hb W
            have hn : ¬ Tt < b := by have := HV.out; omega
            rwa [show ltB Tt b = false from by unfold ltB; simpa using hn] at this
          clear hds hle HV hbx hok hrQ hc hx hU hUe
          simp only [Act.put, List.setIfInBounds_toArray, List.set_cons_succ, List.set_cons_zero]
          gi_wp2_with (first | (gi_at_call 55; refine (callsIn_FW (hsum _)).mono ?_; rintro e w1 ⟨rfl, hb_w1⟩; have hc_w1 := (bcell hb_w1).1; have hf_w1 := (bcell hb_w1).2; have hz_w1 : _ ≤ w1.heap.size := hb_w1.size; (try simp only [World.size_alloc, World.heap_drewN, World.size_setCell, heap_drew] at hc_w1 hf_w1 hz_w1); have hz_w1_w_0 : w.heap.size < w1.heap.size := (by omega); have hz_w1_w_1 : w.heap.size + 1 < w1.heap.size := (by omega); have hz_w1_w_2 : w.heap.size + 1 + 1 < w1.heap.size := (by omega); have hz_w1_w_3 : w.heap.size + 1 + 1 + 1 < w1.heap.size := (by omega); have hz_w1_w_4 : w.heap.size + 1 + 1 + 1 + 1 < w1.heap.size := (by omega); have hz_w1_w_5 : w.heap.size + 1 + 1 + 1 + 1 + 1 < w1.heap.size := (by omega)) | (gi_at_call 15; refine (callsIn_FW (hless _)).mono ?_; rintro e w2 ⟨rfl, hb_w2⟩; have hc_w2 := (bcell hb_w2).1; have hf_w2 := (bcell hb_w2).2; have hz_w2 : _ ≤ w2.heap.size := hb_w2.size; (try simp only [World.size_alloc, World.heap_drewN, World.size_setCell, heap_drew] at hc_w2 hf_w2 hz_w2); have hz_w2_w_0 : w.heap.size < w2.heap.size := (by omega); have hz_w2_w_1 : w.heap.size + 1 < w2.heap.size := (by omega); have hz_w2_w_2 : w.heap.size + 1 + 1 < w2.heap.size := (by omega); have hz_w2_w_3 : w.heap.size + 1 + 1 + 1 < w2.heap.size := (by omega); have hz_w2_w_4 : w.heap.size + 1 + 1 + 1 + 1 < w2.heap.size := (by omega); have hz_w2_w_5 : w.heap.size + 1 + 1 + 1 + 1 + 1 < w2.heap.size := (by omega)) | (gi_at_call 31; refine (callsIn_FW (hsub _)).mono ?_; rintro e w3 ⟨rfl, hb_w3⟩; have hc_w3 := (bcell hb_w3).1; have hf_w3 := (bcell hb_w3).2; have hz_w3 : _ ≤ w3.heap.size := hb_w3.size; (try simp only [World.size_alloc, World.heap_drewN, World.size_setCell, heap_drew] at hc_w3 hf_w3 hz_w3); have hz_w3_w_0 : w.heap.size < w3.heap.size := (by omega); have hz_w3_w_1 : w.heap.size + 1 < w3.heap.size := (by omega); have hz_w3_w_2 : w.heap.size + 1 + 1 < w3.heap.size := (by omega); have hz_w3_w_3 : w.heap.size + 1 + 1 + 1 < w3.heap.size := (by omega); have hz_w3_w_4 : w.heap.size + 1 + 1 + 1 + 1 < w3.heap.size := (by omega); have hz_w3_w_5 : w.heap.size + 1 + 1 + 1 + 1 + 1 < w3.heap.size := (by omega)))
          first | refine wpIn_flow (r := (some l)) (fun k => ([1, 1, 1, 1, 1, 1, 1, 1, 1, 2] : List Nat).getD k 1) Dr _ (Dr.next _ _) (by kernel_rfl) (by kernel_rfl) ?_ | refine wpIn_flow (r := (some l)) (fun k => ([1, 1, 1, 1, 1, 1, 1, 1, 1, 2] : List Nat).getD k 1) Dr _ (Dr.one _) (by kernel_rfl) (by kernel_rfl) ?_
          (refine flow_quiet rfl rfl (fun K hK => ?_); apply Exists.intro; apply And.intro; (focus (rintro w' ⟨nn, rfl⟩; go_simp; (try go_bits); exact ⟨rfl, Dr.of _ _⟩)); go_simp; (try go_bits); refine hK _ ?_; clear hK K)
          (refine flow_quiet rfl rfl (fun K hK => ?_); apply Exists.intro; apply And.intro; (focus (rintro w' ⟨nn, rfl⟩; go_simp; (try go_bits); exact ⟨rfl, Dr.of _ _⟩)); go_simp; (try go_bits); refine hK _ ?_; clear hK K)
          (refine flow_quiet rfl rfl (fun K hK => ?_); apply Exists.intro; apply And.intro; (focus (rintro w' ⟨nn, rfl⟩; go_simp; (try go_bits); exact ⟨rfl, Dr.of _ _⟩)); go_simp; (try go_bits); refine hK _ ?_; clear hK K)
          (refine flow_quiet rfl rfl (fun K hK => ?_); apply Exists.intro; apply And.intro; (focus (rintro w' ⟨nn, rfl⟩; go_simp; (try go_bits); exact ⟨rfl, Dr.of _ _⟩)); go_simp; (try go_bits); refine hK _ ?_; clear hK K)
          (refine flow_quiet rfl rfl (fun K hK => ?_); apply Exists.intro; apply And.intro; (focus (rintro w' ⟨nn, rfl⟩; go_simp; (try go_bits); exact ⟨rfl, Dr.of _ _⟩)); go_simp; (try go_bits); refine hK _ ?_; clear hK K)
          (refine flow_quiet rfl rfl (fun K hK => ?_); apply Exists.intro; apply And.intro; (focus (rintro w' ⟨nn, rfl⟩; go_simp; (try go_bits); exact ⟨rfl, Dr.of _ _⟩)); go_simp; (try go_bits); refine hK _ ?_; clear hK K)
          (refine flow_quiet rfl rfl (fun K hK => ?_); apply Exists.intro; apply And.intro; (focus (rintro w' ⟨nn, rfl⟩; go_simp; (try go_bits); exact ⟨rfl, Dr.of _ _⟩)); go_simp; (try go_bits); refine hK _ ?_; clear hK K)
          (refine flow_quiet rfl rfl (fun K hK => ?_); apply Exists.intro; apply And.intro; (focus (rintro w' ⟨nn, rfl⟩; go_simp; (try go_bits); exact ⟨rfl, Dr.of _ _⟩)); go_simp; (try go_bits); refine hK _ ?_; clear hK K)
          (refine flow_quiet rfl rfl (fun K hK => ?_); apply Exists.intro; apply And.intro; (focus (rintro w' ⟨nn, rfl⟩; go_simp; (try go_bits); exact ⟨rfl, Dr.of _ _⟩)); go_simp; (try go_bits); refine hK _ ?_; clear hK K)
          (refine flow_eff rfl rfl (fun K hK => ?_); apply Exists.intro; apply Exists.intro; apply And.intro; (focus (rintro w' ⟨nn, rfl⟩; go_simp; (try go_bits); refine ⟨rfl, ?_⟩; with_reducible first | exact Dr.store _ _ _ _ | exact Dr.store4 _ _ _ _ _ _ _ _ _ _)); go_simp; (try go_bits); refine hK _ _ ?_; clear hK K)
          refine flow_nil ?_
          rintro w' ⟨nq, rfl⟩
          gi_wp2
          refine ⟨?_, ?_, ?_⟩
          · skip
            (repeat (with_reducible first | exact Fr.refl _ _ | refine Fr.drewN ?_ _ | refine Fr.drew ?_ | refine Fr.setCell ?_ (by first | (left; left; rfl) | (left; right; rfl) | (right; omega)) _ | refine Fr.alloc ?_ _ | refine Fr.below ?_ hb_w1 | refine Fr.below ?_ hb_w2 | refine Fr.below ?_ hb_w3))
          · skip
            (repeat (with_reducible first | exact hq | exact hr | exact hq.has | exact hr.has | refine rowW.put _ ?_ | refine hasRow.put _ ?_ | refine or_row (by omega) ?_ | refine rowW.set ?_ (by omega) | refine rowW.alloc ?_ _ | refine rowW.drewN ?_ _ | refine rowW.drew ?_ | refine rowW.below ?_ hb_w1 (by first | omega | (simp only [World.size_alloc, World.size_setCell, World.heap_drewN, heap_drew]; omega)) | refine rowW.below ?_ hb_w2 (by first | omega | (simp only [World.size_alloc, World.size_setCell, World.heap_drewN, heap_drew]; omega)) | refine rowW.below ?_ hb_w3 (by first | omega | (simp only [World.size_alloc, World.size_setCell, World.heap_drewN, heap_drew]; omega)) | refine hasRow.set ?_ (by omega) | refine hasRow.alloc ?_ _ | refine hasRow.drewN ?_ _ | refine hasRow.drew ?_ | refine hasRow.below ?_ hb_w1 (by first | omega | (simp only [World.size_alloc, World.size_setCell, World.heap_drewN, heap_drew]; omega)) | refine hasRow.below ?_ hb_w2 (by first | omega | (simp only [World.size_alloc, World.size_setCell, World.heap_drewN, heap_drew]; omega)) | refine hasRow.below ?_ hb_w3 (by first | omega | (simp only [World.size_alloc, World.size_setCell, World.heap_drewN, heap_drew]; omega))))
          · skip
            (repeat (with_reducible first | exact hq | exact hr | exact hq.has | exact hr.has | refine rowW.put _ ?_ | refine hasRow.put _ ?_ | refine or_row (by omega) ?_ | refine rowW.set ?_ (by omega) | refine rowW.alloc ?_ _ | refine rowW.drewN ?_ _ | refine rowW.drew ?_ | refine rowW.below ?_ hb_w1 (by first | omega | (simp only [World.size_alloc, World.size_setCell, World.heap_drewN, heap_drew]; omega)) | refine rowW.below ?_ hb_w2 (by first | omega | (simp only [World.size_alloc, World.size_setCell, World.heap_drewN, heap_drew]; omega)) | refine rowW.below ?_ hb_w3 (by first | omega | (simp only [World.size_alloc, World.size_setCell, World.heap_drewN, heap_drew]; omega)) | refine hasRow.set ?_ (by omega) | refine hasRow.alloc ?_ _ | refine hasRow.drewN ?_ _ | refine hasRow.drew ?_ | refine hasRow.below ?_ hb_w1 (by first | omega | (simp only [World.size_alloc, World.size_setCell, World.heap_drewN, heap_drew]; omega)) | refine hasRow.below ?_ hb_w2 (by first | omega | (simp only [World.size_alloc, World.size_setCell, World.heap_drewN, heap_drew]; omega)) | refine hasRow.below ?_ hb_w3 (by first | omega | (simp only [World.size_alloc, World.size_setCell, World.heap_drewN, heap_drew]; omega))))
        · skip
          clear hds hle HV hbx hok hrQ hc hx hU hUe
          simp only [Act.put, List.setIfInBounds_toArray, List.set_cons_succ, List.set_cons_zero]
          gi_wp2_with (first | (gi_at_call 55; refine (callsIn_FW (hsum _)).mono ?_; rintro e w1 ⟨rfl, hb_w1⟩; have hc_w1 := (bcell hb_w1).1; have hf_w1 := (bcell hb_w1).2; have hz_w1 : _ ≤ w1.heap.size := hb_w1.size; (try simp only [World.size_alloc, World.heap_drewN, World.size_setCell, heap_drew] at hc_w1 hf_w1 hz_w1); have hz_w1_w_0 : w.heap.size < w1.heap.size := (by omega); have hz_w1_w_1 : w.heap.size + 1 < w1.heap.size := (by omega); have hz_w1_w_2 : w.heap.size + 1 + 1 < w1.heap.size := (by omega); have hz_w1_w_3 : w.heap.size + 1 + 1 + 1 < w1.heap.size := (by omega); have hz_w1_w_4 : w.heap.size + 1 + 1 + 1 + 1 < w1.heap.size := (by omega); have hz_w1_w_5 : w.heap.size + 1 + 1 + 1 + 1 + 1 < w1.heap.size := (by omega)) | (gi_at_call 15; refine (callsIn_FW (hless _)).mono ?_; rintro e w2 ⟨rfl, hb_w2⟩; have hc_w2 := (bcell hb_w2).1; have hf_w2 := (bcell hb_w2).2; have hz_w2 : _ ≤ w2.heap.size := hb_w2.size; (try simp only [World.size_alloc, World.heap_drewN, World.size_setCell, heap_drew] at hc_w2 hf_w2 hz_w2); have hz_w2_w_0 : w.heap.size < w2.heap.size := (by omega); have hz_w2_w_1 : w.heap.size + 1 < w2.heap.size := (by omega); have hz_w2_w_2 : w.heap.size + 1 + 1 < w2.heap.size := (by omega); have hz_w2_w_3 : w.heap.size + 1 + 1 + 1 < w2.heap.size := (by omega); have hz_w2_w_4 : w.heap.size + 1 + 1 + 1 + 1 < w2.heap.size := (by omega); have hz_w2_w_5 : w.heap.size + 1 + 1 + 1 + 1 + 1 < w2.heap.size := (by omega)) | (gi_at_call 31; refine (callsIn_FW (hsub _)).mono ?_; rintro e w3 ⟨rfl, hb_w3⟩; have hc_w3 := (bcell hb_w3).1; have hf_w3 := (bcell hb_w3).2; have hz_w3 : _ ≤ w3.heap.size := hb_w3.size; (try simp only [World.size_alloc, World.heap_drewN, World.size_setCell, heap_drew] at hc_w3 hf_w3 hz_w3); have hz_w3_w_0 : w.heap.size < w3.heap.size := (by omega); have hz_w3_w_1 : w.heap.size + 1 < w3.heap.size := (by omega); have hz_w3_w_2 : w.heap.size + 1 + 1 < w3.heap.size := (by omega); have hz_w3_w_3 : w.heap.size + 1 + 1 + 1 < w3.heap.size := (by omega); have hz_w3_w_4 : w.heap.size + 1 + 1 + 1 + 1 < w3.heap.size := (by omega); have hz_w3_w_5 : w.heap.size + 1 + 1 + 1 + 1 + 1 < w3.heap.size := (by omega)))
          first | refine wpIn_flow (r := (some l)) (fun k => ([1, 1, 1, 1, 1, 1, 1, 1, 1, 2] : List Nat).getD k 1) Dr _ (Dr.next _ _) (by kernel_rfl) (by kernel_rfl) ?_ | refine wpIn_flow (r := (some l)) (fun k => ([1, 1, 1, 1, 1, 1, 1, 1, 1, 2] : List Nat).getD k 1) Dr _ (Dr.one _) (by kernel_rfl) (by kernel_rfl) ?_
          (refine flow_quiet rfl rfl (fun K hK => ?_); apply Exists.intro; apply And.intro; (focus (rintro w' ⟨nn, rfl⟩; go_simp; (try go_bits); exact ⟨rfl, Dr.of _ _⟩)); go_simp; (try go_bits); refine hK _ ?_; clear hK K)
          (refine flow_quiet rfl rfl (fun K hK => ?_); apply Exists.intro; apply And.intro; (focus (rintro w' ⟨nn, rfl⟩; go_simp; (try go_bits); exact ⟨rfl, Dr.of _ _⟩)); go_simp; (try go_bits); refine hK _ ?_; clear hK K)
          (refine flow_quiet rfl rfl (fun K hK => ?_); apply Exists.intro; apply And.intro; (focus (rintro w' ⟨nn, rfl⟩; go_simp; (try go_bits); exact ⟨rfl, Dr.of _ _⟩)); go_simp; (try go_bits); refine hK _ ?_; clear hK K)
          (refine flow_quiet rfl rfl (fun K hK => ?_); apply Exists.intro; apply And.intro; (focus (rintro w' ⟨nn, rfl⟩; go_simp; (try go_bits); exact ⟨rfl, Dr.of _ _⟩)); go_simp; (try go_bits); refine hK _ ?_; clear hK K)
          (refine flow_quiet rfl rfl (fun K hK => ?_); apply Exists.intro; apply And.intro; (focus (rintro w' ⟨nn, rfl⟩; go_simp; (try go_bits); exact ⟨rfl, Dr.of _ _⟩)); go_simp; (try go_bits); refine hK _ ?_; clear hK K)
          (refine flow_quiet rfl rfl (fun K hK => ?_); apply Exists.intro; apply And.intro; (focus (rintro w' ⟨nn, rfl⟩; go_simp; (try go_bits); exact ⟨rfl, Dr.of _ _⟩)); go_simp; (try go_bits); refine hK _ ?_; clear hK K)
          (refine flow_quiet rfl rfl (fun K hK => ?_); apply Exists.intro; apply And.intro; (focus (rintro w' ⟨nn, rfl⟩; go_simp; (try go_bits); exact ⟨rfl, Dr.of _ _⟩)); go_simp; (try go_bits); refine hK _ ?_; clear hK K)
          (refine flow_quiet rfl rfl (fun K hK => ?_); apply Exists.intro; apply And.intro; (focus (rintro w' ⟨nn, rfl⟩; go_simp; (try go_bits); exact ⟨rfl, Dr.of _ _⟩)); go_simp; (try go_bits); refine hK _ ?_; clear hK K)
          (refine flow_quiet rfl rfl (fun K hK => ?_); apply Exists.intro; apply And.intro; (focus (rintro w' ⟨nn, rfl⟩; go_simp; (try go_bits); exact ⟨rfl, Dr.of _ _⟩)); go_simp; (try go_bits); refine hK _ ?_; clear hK K)
          (refine flow_eff rfl rfl (fun K hK => ?_); apply Exists.intro; apply Exists.intro; apply And.intro; (focus (rintro w' ⟨nn, rfl⟩; go_simp; (try go_bits); refine ⟨rfl, ?_⟩; with_reducible first | exact Dr.store _ _ _ _ | exact Dr.store4 _ _ _ _ _ _ _ _ _ _)); go_simp; (try go_bits); refine hK _ _ ?_; clear hK K)
          refine flow_nil ?_
          rintro w' ⟨nq, rfl⟩
          gi_wp2
          refine ⟨?_, ?_, ?_⟩
          · skip
            (repeat (with_reducible first | exact Fr.refl _ _ | refine Fr.drewN ?_ _ | refine Fr.drew ?_ | refine Fr.setCell ?_ (by first | (left; left; rfl) | (left; right; rfl) | (right; omega)) _ | refine Fr.alloc ?_ _ | refine Fr.below ?_ hb_w1 | refine Fr.below ?_ hb_w2 | refine Fr.below ?_ hb_w3))
          · skip
            (repeat (with_reducible first | exact hq | exact hr | exact hq.has | exact hr.has | refine rowW.put _ ?_ | refine hasRow.put _ ?_ | refine or_row (by omega) ?_ | refine rowW.set ?_ (by omega) | refine rowW.alloc ?_ _ | refine rowW.drewN ?_ _ | refine rowW.drew ?_ | refine rowW.below ?_ hb_w1 (by first | omega | (simp only [World.size_alloc, World.size_setCell, World.heap_drewN, heap_drew]; omega)) | refine rowW.below ?_ hb_w2 (by first | omega | (simp only [World.size_alloc, World.size_setCell, World.heap_drewN, heap_drew]; omega)) | refine rowW.below ?_ hb_w3 (by first | omega | (simp only [World.size_alloc, World.size_setCell, World.heap_drewN, heap_drew]; omega)) | refine hasRow.set ?_ (by omega) | refine hasRow.alloc ?_ _ | refine hasRow.drewN ?_ _ | refine hasRow.drew ?_ | refine hasRow.below ?_ hb_w1 (by first | omega | (simp only [World.size_alloc, World.size_setCell, World.heap_drewN, heap_drew]; omega)) | refine hasRow.below ?_ hb_w2 (by first | omega | (simp only [World.size_alloc, World.size_setCell, World.heap_drewN, heap_drew]; omega)) | refine hasRow.below ?_ hb_w3 (by first | omega | (simp only [World.size_alloc, World.size_setCell, World.heap_drewN, heap_drew]; omega))))
          · skip
            (repeat (with_reducible first | exact hq | exact hr | exact hq.has | exact hr.has | refine rowW.put _ ?_ | refine hasRow.put _ ?_ | refine or_row (by omega) ?_ | refine rowW.set ?_ (by omega) | refine rowW.alloc ?_ _ | refine rowW.drewN ?_ _ | refine rowW.drew ?_ | refine rowW.below ?_ hb_w1 (by first | omega | (simp only [World.size_alloc, World.size_setCell, World.heap_drewN, heap_drew]; omega)) | refine rowW.below ?_ hb_w2 (by first | omega | (simp only [World.size_alloc, World.size_setCell, World.heap_drewN, heap_drew]; omega)) | refine rowW.below ?_ hb_w3 (by first | omega | (simp only [World.size_alloc, World.size_setCell, World.heap_drewN, heap_drew]; omega)) | refine hasRow.set ?_ (by omega) | refine hasRow.alloc ?_ _ | refine hasRow.drewN ?_ _ | refine hasRow.drew ?_ | refine hasRow.below ?_ hb_w1 (by first | omega | (simp only [World.size_alloc, World.size_setCell, World.heap_drewN, heap_drew]; omega)) | refine hasRow.below ?_ hb_w2 (by first | omega | (simp only [World.size_alloc, World.size_setCell, World.heap_drewN, heap_drew]; omega)) | refine hasRow.below ?_ hb_w3 (by first | omega | (simp only [World.size_alloc, World.size_setCell, World.heap_drewN, heap_drew]; omega))))
      · have hds : dstep b (q, r) ⟨(i, t), hi, ht⟩ = (q, U) := by
          unfold dstep
          rw [if_pos hle]
          simp only [if_neg h256, hU]
        rw [hds]
        rcases hc01 with rfl | rfl
        · skip
          have hless : ∀ W, Calls Try.prog 15 #[W4 Tt, W4 b] W fun e w' => e = .returned (.bool false) ∧ Below W.heap.size W w' := fun W => by
            have := Less_any Tt b hT hb W
            have hn : ¬ Tt < b := by have := HV.out; omega
            rwa [show ltB Tt b = false from by unfold ltB; simpa using hn] at this
          clear hds hle HV hbx hok hrQ hc hx hU hUe
          simp only [Act.put, List.setIfInBounds_toArray, List.set_cons_succ, List.set_cons_zero]
          gi_wp2_with (first | (gi_at_call 55; refine (callsIn_FW (hsum _)).mono ?_; rintro e w1 ⟨rfl, hb_w1⟩; have hc_w1 := (bcell hb_w1).1; have hf_w1 := (bcell hb_w1).2; have hz_w1 : _ ≤ w1.heap.size := hb_w1.size; (try simp only [World.size_alloc, World.heap_drewN, World.size_setCell, heap_drew] at hc_w1 hf_w1 hz_w1); have hz_w1_w_0 : w.heap.size < w1.heap.size := (by omega); have hz_w1_w_1 : w.heap.size + 1 < w1.heap.size := (by omega); have hz_w1_w_2 : w.heap.size + 1 + 1 < w1.heap.size := (by omega); have hz_w1_w_3 : w.heap.size + 1 + 1 + 1 < w1.heap.size := (by omega); have hz_w1_w_4 : w.heap.size + 1 + 1 + 1 + 1 < w1.heap.size := (by omega); have hz_w1_w_5 : w.heap.size + 1 + 1 + 1 + 1 + 1 < w1.heap.size := (by omega)) | (gi_at_call 15; refine (callsIn_FW (hless _)).mono ?_; rintro e w2 ⟨rfl, hb_w2⟩; have hc_w2 := (bcell hb_w2).1; have hf_w2 := (bcell hb_w2).2; have hz_w2 : _ ≤ w2.heap.size := hb_w2.size; (try simp only [World.size_alloc, World.heap_drewN, World.size_setCell, heap_drew] at hc_w2 hf_w2 hz_w2); have hz_w2_w_0 : w.heap.size < w2.heap.size := (by omega); have hz_w2_w_1 : w.heap.size + 1 < w2.heap.size := (by omega); have hz_w2_w_2 : w.heap.size + 1 + 1 < w2.heap.size := (by omega); have hz_w2_w_3 : w.heap.size + 1 + 1 + 1 < w2.heap.size := (by omega); have hz_w2_w_4 : w.heap.size + 1 + 1 + 1 + 1 < w2.heap.size := (by omega); have hz_w2_w_5 : w.heap.size + 1 + 1 + 1 + 1 + 1 < w2.heap.size := (by omega)) | (gi_at_call 31; refine (callsIn_FW (hsub _)).mono ?_; rintro e w3 ⟨rfl, hb_w3⟩; have hc_w3 := (bcell hb_w3).1; have hf_w3 := (bcell hb_w3).2; have hz_w3 : _ ≤ w3.heap.size := hb_w3.size; (try simp only [World.size_alloc, World.heap_drewN, World.size_setCell, heap_drew] at hc_w3 hf_w3 hz_w3); have hz_w3_w_0 : w.heap.size < w3.heap.size := (by omega); have hz_w3_w_1 : w.heap.size + 1 < w3.heap.size := (by omega); have hz_w3_w_2 : w.heap.size + 1 + 1 < w3.heap.size := (by omega); have hz_w3_w_3 : w.heap.size + 1 + 1 + 1 < w3.heap.size := (by omega); have hz_w3_w_4 : w.heap.size + 1 + 1 + 1 + 1 < w3.heap.size := (by omega); have hz_w3_w_5 : w.heap.size + 1 + 1 + 1 + 1 + 1 < w3.heap.size := (by omega)))
          refine ⟨?_, ?_, ?_⟩
          · skip
            (repeat (with_reducible first | exact Fr.refl _ _ | refine Fr.drewN ?_ _ | refine Fr.drew ?_ | refine Fr.setCell ?_ (by first | (left; left; rfl) | (left; right; rfl) | (right; omega)) _ | refine Fr.alloc ?_ _ | refine Fr.below ?_ hb_w1 | refine Fr.below ?_ hb_w2 | refine Fr.below ?_ hb_w3))
          · skip
            (repeat (with_reducible first | exact hq | exact hr | exact hq.has | exact hr.has | refine rowW.put _ ?_ | refine hasRow.put _ ?_ | refine or_row (by omega) ?_ | refine rowW.set ?_ (by omega) | refine rowW.alloc ?_ _ | refine rowW.drewN ?_ _ | refine rowW.drew ?_ | refine rowW.below ?_ hb_w1 (by first | omega | (simp only [World.size_alloc, World.size_setCell, World.heap_drewN, heap_drew]; omega)) | refine rowW.below ?_ hb_w2 (by first | omega | (simp only [World.size_alloc, World.size_setCell, World.heap_drewN, heap_drew]; omega)) | refine rowW.below ?_ hb_w3 (by first | omega | (simp only [World.size_alloc, World.size_setCell, World.heap_drewN, heap_drew]; omega)) | refine hasRow.set ?_ (by omega) | refine hasRow.alloc ?_ _ | refine hasRow.drewN ?_ _ | refine hasRow.drew ?_ | refine hasRow.below ?_ hb_w1 (by first | omega | (simp only [World.size_alloc, World.size_setCell, World.heap_drewN, heap_drew]; omega)) | refine hasRow.below ?_ hb_w2 (by first | omega | (simp only [World.size_alloc, World.size_setCell, World.heap_drewN, heap_drew]; omega)) | refine hasRow.below ?_ hb_w3 (by first | omega | (simp only [World.size_alloc, World.size_setCell, World.heap_drewN, heap_drew]; omega))))
          · skip
            (repeat (with_reducible first | exact hq | exact hr | exact hq.has | exact hr.has | refine rowW.put _ ?_ | refine hasRow.put _ ?_ | refine or_row (by omega) ?_ | refine rowW.set ?_ (by omega) | refine rowW.alloc ?_ _ | refine rowW.drewN ?_ _ | refine rowW.drew ?_ | refine rowW.below ?_ hb_w1 (by first | omega | (simp only [World.size_alloc, World.size_setCell, World.heap_drewN, heap_drew]; omega)) | refine rowW.below ?_ hb_w2 (by first | omega | (simp only [World.size_alloc, World.size_setCell, World.heap_drewN, heap_drew]; omega)) | refine rowW.below ?_ hb_w3 (by first | omega | (simp only [World.size_alloc, World.size_setCell, World.heap_drewN, heap_drew]; omega)) | refine hasRow.set ?_ (by omega) | refine hasRow.alloc ?_ _ | refine hasRow.drewN ?_ _ | refine hasRow.drew ?_ | refine hasRow.below ?_ hb_w1 (by first | omega | (simp only [World.size_alloc, World.size_setCell, World.heap_drewN, heap_drew]; omega)) | refine hasRow.below ?_ hb_w2 (by first | omega | (simp only [World.size_alloc, World.size_setCell, World.heap_drewN, heap_drew]; omega)) | refine hasRow.below ?_ hb_w3 (by first | omega | (simp only [World.size_alloc, World.size_setCell, World.heap_drewN, heap_drew]; omega))))
        · skip
          clear hds hle HV hbx hok hrQ hc hx hU hUe
          simp only [Act.put, List.setIfInBounds_toArray, List.set_cons_succ, List.set_cons_zero]
          gi_wp2_with (first | (gi_at_call 55; refine (callsIn_FW (hsum _)).mono ?_; rintro e w1 ⟨rfl, hb_w1⟩; have hc_w1 := (bcell hb_w1).1; have hf_w1 := (bcell hb_w1).2; have hz_w1 : _ ≤ w1.heap.size := hb_w1.size; (try simp only [World.size_alloc, World.heap_drewN, World.size_setCell, heap_drew] at hc_w1 hf_w1 hz_w1); have hz_w1_w_0 : w.heap.size < w1.heap.size := (by omega); have hz_w1_w_1 : w.heap.size + 1 < w1.heap.size := (by omega); have hz_w1_w_2 : w.heap.size + 1 + 1 < w1.heap.size := (by omega); have hz_w1_w_3 : w.heap.size + 1 + 1 + 1 < w1.heap.size := (by omega); have hz_w1_w_4 : w.heap.size + 1 + 1 + 1 + 1 < w1.heap.size := (by omega); have hz_w1_w_5 : w.heap.size + 1 + 1 + 1 + 1 + 1 < w1.heap.size := (by omega)) | (gi_at_call 15; refine (callsIn_FW (hless _)).mono ?_; rintro e w2 ⟨rfl, hb_w2⟩; have hc_w2 := (bcell hb_w2).1; have hf_w2 := (bcell hb_w2).2; have hz_w2 : _ ≤ w2.heap.size := hb_w2.size; (try simp only [World.size_alloc, World.heap_drewN, World.size_setCell, heap_drew] at hc_w2 hf_w2 hz_w2); have hz_w2_w_0 : w.heap.size < w2.heap.size := (by omega); have hz_w2_w_1 : w.heap.size + 1 < w2.heap.size := (by omega); have hz_w2_w_2 : w.heap.size + 1 + 1 < w2.heap.size := (by omega); have hz_w2_w_3 : w.heap.size + 1 + 1 + 1 < w2.heap.size := (by omega); have hz_w2_w_4 : w.heap.size + 1 + 1 + 1 + 1 < w2.heap.size := (by omega); have hz_w2_w_5 : w.heap.size + 1 + 1 + 1 + 1 + 1 < w2.heap.size := (by omega)) | (gi_at_call 31; refine (callsIn_FW (hsub _)).mono ?_; rintro e w3 ⟨rfl, hb_w3⟩; have hc_w3 := (bcell hb_w3).1; have hf_w3 := (bcell hb_w3).2; have hz_w3 : _ ≤ w3.heap.size := hb_w3.size; (try simp only [World.size_alloc, World.heap_drewN, World.size_setCell, heap_drew] at hc_w3 hf_w3 hz_w3); have hz_w3_w_0 : w.heap.size < w3.heap.size := (by omega); have hz_w3_w_1 : w.heap.size + 1 < w3.heap.size := (by omega); have hz_w3_w_2 : w.heap.size + 1 + 1 < w3.heap.size := (by omega); have hz_w3_w_3 : w.heap.size + 1 + 1 + 1 < w3.heap.size := (by omega); have hz_w3_w_4 : w.heap.size + 1 + 1 + 1 + 1 < w3.heap.size := (by omega); have hz_w3_w_5 : w.heap.size + 1 + 1 + 1 + 1 + 1 < w3.heap.size := (by omega)))
          refine ⟨?_, ?_, ?_⟩
          · skip
            (repeat (with_reducible first | exact Fr.refl _ _ | refine Fr.drewN ?_ _ | refine Fr.drew ?_ | refine Fr.setCell ?_ (by first | (left; left; rfl) | (left; right; rfl) | (right; omega)) _ | refine Fr.alloc ?_ _ | refine Fr.below ?_ hb_w1 | refine Fr.below ?_ hb_w2 | refine Fr.below ?_ hb_w3))
          · skip
            (repeat (with_reducible first | exact hq | exact hr | exact hq.has | exact hr.has | refine rowW.put _ ?_ | refine hasRow.put _ ?_ | refine or_row (by omega) ?_ | refine rowW.set ?_ (by omega) | refine rowW.alloc ?_ _ | refine rowW.drewN ?_ _ | refine rowW.drew ?_ | refine rowW.below ?_ hb_w1 (by first | omega | (simp only [World.size_alloc, World.size_setCell, World.heap_drewN, heap_drew]; omega)) | refine rowW.below ?_ hb_w2 (by first | omega | (simp only [World.size_alloc, World.size_setCell, World.heap_drewN, heap_drew]; omega)) | refine rowW.below ?_ hb_w3 (by first | omega | (simp only [World.size_alloc, World.size_setCell, World.heap_drewN, heap_drew]; omega)) | refine hasRow.set ?_ (by omega) | refine hasRow.alloc ?_ _ | refine hasRow.drewN ?_ _ | refine hasRow.drew ?_ | refine hasRow.below ?_ hb_w1 (by first | omega | (simp only [World.size_alloc, World.size_setCell, World.heap_drewN, heap_drew]; omega)) | refine hasRow.below ?_ hb_w2 (by first | omega | (simp only [World.size_alloc, World.size_setCell, World.heap_drewN, heap_drew]; omega)) | refine hasRow.below ?_ hb_w3 (by first | omega | (simp only [World.size_alloc, World.size_setCell, World.heap_drewN, heap_drew]; omega))))
          · skip
            (repeat (with_reducible first | exact hq | exact hr | exact hq.has | exact hr.has | refine rowW.put _ ?_ | refine hasRow.put _ ?_ | refine or_row (by omega) ?_ | refine rowW.set ?_ (by omega) | refine rowW.alloc ?_ _ | refine rowW.drewN ?_ _ | refine rowW.drew ?_ | refine rowW.below ?_ hb_w1 (by first | omega | (simp only [World.size_alloc, World.size_setCell, World.heap_drewN, heap_drew]; omega)) | refine rowW.below ?_ hb_w2 (by first | omega | (simp only [World.size_alloc, World.size_setCell, World.heap_drewN, heap_drew]; omega)) | refine rowW.below ?_ hb_w3 (by first | omega | (simp only [World.size_alloc, World.size_setCell, World.heap_drewN, heap_drew]; omega)) | refine hasRow.set ?_ (by omega) | refine hasRow.alloc ?_ _ | refine hasRow.drewN ?_ _ | refine hasRow.drew ?_ | refine hasRow.below ?_ hb_w1 (by first | omega | (simp only [World.size_alloc, World.size_setCell, World.heap_drewN, heap_drew]; omega)) | refine hasRow.below ?_ hb_w2 (by first | omega | (simp only [World.size_alloc, World.size_setCell, World.heap_drewN, heap_drew]; omega)) | refine hasRow.below ?_ hb_w3 (by first | omega | (simp only [World.size_alloc, World.size_setCell, World.heap_drewN, heap_drew]; omega))))
    · have hc0 : c = 0 := by
        have := HV.out
        have : c = 0 ∨ c = 1 := by omega
        rcases this with h | h
        · exact h
        · subst h; omega
      have hTb : Tt < b := by have := HV.out; rw [hc0] at this; omega
      subst hc0
      have hless : ∀ W, Calls Try.prog 15 #[W4 Tt, W4 b] W fun e w' => e = .returned (.bool true) ∧ Below W.heap.size W w' := fun W => by
        have := Less_any Tt b hT hb W
        rwa [show ltB Tt b = true from by unfold ltB; simpa using hTb] at this
      have hds : dstep b (q, r) ⟨(i, t), hi, ht⟩ = (q, Tt) := by
        unfold dstep
        rw [if_neg hle]
        have := HV.out
        simp only [Prod.mk.injEq, true_and]
        omega
      rw [hds]
      clear hds hle hTb HV hbx hok hrQ hc hx
      simp only [Act.put, List.setIfInBounds_toArray, List.set_cons_succ, List.set_cons_zero]
      gi_wp2_with (first | (gi_at_call 55; refine (callsIn_FW (hsum _)).mono ?_; rintro e w1 ⟨rfl, hb_w1⟩; have hc_w1 := (bcell hb_w1).1; have hf_w1 := (bcell hb_w1).2; have hz_w1 : _ ≤ w1.heap.size := hb_w1.size; (try simp only [World.size_alloc, World.heap_drewN, World.size_setCell, heap_drew] at hc_w1 hf_w1 hz_w1); have hz_w1_w_0 : w.heap.size < w1.heap.size := (by omega); have hz_w1_w_1 : w.heap.size + 1 < w1.heap.size := (by omega); have hz_w1_w_2 : w.heap.size + 1 + 1 < w1.heap.size := (by omega); have hz_w1_w_3 : w.heap.size + 1 + 1 + 1 < w1.heap.size := (by omega); have hz_w1_w_4 : w.heap.size + 1 + 1 + 1 + 1 < w1.heap.size := (by omega); have hz_w1_w_5 : w.heap.size + 1 + 1 + 1 + 1 + 1 < w1.heap.size := (by omega)) | (gi_at_call 15; refine (callsIn_FW (hless _)).mono ?_; rintro e w2 ⟨rfl, hb_w2⟩; have hc_w2 := (bcell hb_w2).1; have hf_w2 := (bcell hb_w2).2; have hz_w2 : _ ≤ w2.heap.size := hb_w2.size; (try simp only [World.size_alloc, World.heap_drewN, World.size_setCell, heap_drew] at hc_w2 hf_w2 hz_w2); have hz_w2_w_0 : w.heap.size < w2.heap.size := (by omega); have hz_w2_w_1 : w.heap.size + 1 < w2.heap.size := (by omega); have hz_w2_w_2 : w.heap.size + 1 + 1 < w2.heap.size := (by omega); have hz_w2_w_3 : w.heap.size + 1 + 1 + 1 < w2.heap.size := (by omega); have hz_w2_w_4 : w.heap.size + 1 + 1 + 1 + 1 < w2.heap.size := (by omega); have hz_w2_w_5 : w.heap.size + 1 + 1 + 1 + 1 + 1 < w2.heap.size := (by omega)))
      refine ⟨?_, ?_, ?_⟩
      · skip
        (repeat (with_reducible first | exact Fr.refl _ _ | refine Fr.drewN ?_ _ | refine Fr.drew ?_ | refine Fr.setCell ?_ (by first | (left; left; rfl) | (left; right; rfl) | (right; omega)) _ | refine Fr.alloc ?_ _ | refine Fr.below ?_ hb_w1 | refine Fr.below ?_ hb_w2 | refine Fr.below ?_ hb_w3))
      · skip
        (repeat (with_reducible first | exact hq | exact hr | exact hq.has | exact hr.has | refine rowW.put _ ?_ | refine hasRow.put _ ?_ | refine or_row (by omega) ?_ | refine rowW.set ?_ (by omega) | refine rowW.alloc ?_ _ | refine rowW.drewN ?_ _ | refine rowW.drew ?_ | refine rowW.below ?_ hb_w1 (by first | omega | (simp only [World.size_alloc, World.size_setCell, World.heap_drewN, heap_drew]; omega)) | refine rowW.below ?_ hb_w2 (by first | omega | (simp only [World.size_alloc, World.size_setCell, World.heap_drewN, heap_drew]; omega)) | refine rowW.below ?_ hb_w3 (by first | omega | (simp only [World.size_alloc, World.size_setCell, World.heap_drewN, heap_drew]; omega)) | refine hasRow.set ?_ (by omega) | refine hasRow.alloc ?_ _ | refine hasRow.drewN ?_ _ | refine hasRow.drew ?_ | refine hasRow.below ?_ hb_w1 (by first | omega | (simp only [World.size_alloc, World.size_setCell, World.heap_drewN, heap_drew]; omega)) | refine hasRow.below ?_ hb_w2 (by first | omega | (simp only [World.size_alloc, World.size_setCell, World.heap_drewN, heap_drew]; omega)) | refine hasRow.below ?_ hb_w3 (by first | omega | (simp only [World.size_alloc, World.size_setCell, World.heap_drewN, heap_drew]; omega))))
      · skip
        (repeat (with_reducible first | exact hq | exact hr | exact hq.has | exact hr.has | refine rowW.put _ ?_ | refine hasRow.put _ ?_ | refine or_row (by omega) ?_ | refine rowW.set ?_ (by omega) | refine rowW.alloc ?_ _ | refine rowW.drewN ?_ _ | refine rowW.drew ?_ | refine rowW.below ?_ hb_w1 (by first | omega | (simp only [World.size_alloc, World.size_setCell, World.heap_drewN, heap_drew]; omega)) | refine rowW.below ?_ hb_w2 (by first | omega | (simp only [World.size_alloc, World.size_setCell, World.heap_drewN, heap_drew]; omega)) | refine rowW.below ?_ hb_w3 (by first | omega | (simp only [World.size_alloc, World.size_setCell, World.heap_drewN, heap_drew]; omega)) | refine hasRow.set ?_ (by omega) | refine hasRow.alloc ?_ _ | refine hasRow.drewN ?_ _ | refine hasRow.drew ?_ | refine hasRow.below ?_ hb_w1 (by first | omega | (simp only [World.size_alloc, World.size_setCell, World.heap_drewN, heap_drew]; omega)) | refine hasRow.below ?_ hb_w2 (by first | omega | (simp only [World.size_alloc, World.size_setCell, World.heap_drewN, heap_drew]; omega)) | refine hasRow.below ?_ hb_w3 (by first | omega | (simp only [World.size_alloc, World.size_setCell, World.heap_drewN, heap_drew]; omega))))
  case done =>
    rintro D ys X ⟨N, hN, hxN, rfl⟩ ⟨hq, hr⟩ hfr hD hlt
    rw [dfold_all hb0 (by omega) hxN] at hq hr
    have hz := hfr.size
    simp only [World.size_alloc] at hz hlt
    have h1 : rowW 24 X (w.heap.size + 1) 0 :=
      (hfr.block _ (by simp only [World.size_alloc]; omega) (by rintro (h | h) <;> omega)).trans (((((rowW.new0 (by simp only [World.size_alloc])).alloc _).alloc _).alloc _).alloc _)
    have h2 : rowW 24 X (w.heap.size + 1 + 1) 0 :=
      (hfr.block _ (by simp only [World.size_alloc]; omega) (by rintro (h | h) <;> omega)).trans ((((rowW.new0 (by simp only [World.size_alloc])).alloc _).alloc _).alloc _)
    have hbel : Below w.heap.size w X := (((((((Below.refl _ w).alloc (Nat.le_refl _) _).alloc (by simp only [World.size_alloc]; omega) _).alloc (by simp only [World.size_alloc]; omega) _).alloc (by simp only [World.size_alloc]; omega) _).alloc (by simp only [World.size_alloc]; omega) _).alloc (by simp only [World.size_alloc]; omega) _).trans (hfr.toBelow (by simp only [World.size_alloc]; omega) (by rintro k (h | h) <;> omega))
    clear hfr hc hx hxN
    obtain ⟨q, hqe⟩ : ∃ q, q = x / b % Q256 := ⟨_, rfl⟩
    obtain ⟨r, hre⟩ : ∃ r, r = x % b := ⟨_, rfl⟩
    rw [← hqe] at hq
    rw [← hre] at hr
    have HQ := Lib.hid hqe
    have HR := Lib.hid hre
    clear hqe hre
    obtain ⟨q0, q1, q2, q3, qf⟩ := hq.cells
    obtain ⟨u0, u1, u2, u3, uf⟩ := h1.cells
    obtain ⟨v0, v1, v2, v3, vf⟩ := h2.cells
    clear hq h1 h2
    gi_wp2
    first | refine wpIn_flow (r := none) (fun k => ([1, 0, 2, 2] : List Nat).getD k 1) (DrC (fun W => rowW 24 W (w.heap.size + 1 + 1 + 1 + 1) r)) _ ⟨Dr.next _ _, ?_⟩ (by kernel_rfl) (by kernel_rfl) ?_ | refine wpIn_flow (r := none) (fun k => ([1, 0, 2, 2] : List Nat).getD k 1) (DrC (fun W => rowW 24 W (w.heap.size + 1 + 1 + 1 + 1) r)) _ ⟨Dr.one _, ?_⟩ (by kernel_rfl) (by kernel_rfl) ?_
    focus ( exact hr)
    (refine flow_quiet rfl rfl (fun K hK => ?_); apply Exists.intro; apply And.intro; (focus (rintro w' ⟨⟨nn, rfl⟩, hC⟩; go_simp; (try go_bits); exact ⟨rfl, Dr.of _ _, hC⟩)); go_simp; (try go_bits); refine hK _ ?_; clear hK K)
    (refine flow_late rfl rfl (fun K hK => ?_); apply Exists.intro; apply And.intro; (focus (rintro w0 w' ⟨hd0, hC⟩; clear hd0;  obtain ⟨r0, r1, r2, r3, rf⟩ := hC.cells ; go_simp; (try go_bits); exact rfl)); go_simp; (try go_bits); refine hK _ ?_; clear hK K)
    (refine flow_eff rfl rfl (fun K hK => ?_); apply Exists.intro; apply Exists.intro; apply And.intro; (focus (rintro w' ⟨⟨nn, rfl⟩, hC⟩;  obtain ⟨r0, r1, r2, r3, rf⟩ := hC.cells ; go_simp; (try go_bits); refine ⟨rfl, ?_, ?_⟩; (with_reducible first | exact Dr.store _ _ _ _ | exact Dr.store4 _ _ _ _ _ _ _ _ _ _); ( (repeat (with_reducible first | exact hC | refine rowW.set ?_ (by omega) | refine rowW.drewN ?_ _)) ))); go_simp; (try go_bits); refine hK _ _ ?_; clear hK K)
    (refine flow_eff rfl rfl (fun K hK => ?_); apply Exists.intro; apply Exists.intro; apply And.intro; (focus (rintro w' ⟨⟨nn, rfl⟩, hC⟩;  obtain ⟨r0, r1, r2, r3, rf⟩ := hC.cells ; go_simp; (try go_bits); refine ⟨rfl, ?_, ?_⟩; (with_reducible first | exact Dr.store _ _ _ _ | exact Dr.store4 _ _ _ _ _ _ _ _ _ _); ( (repeat (with_reducible first | exact hC | refine rowW.set ?_ (by omega) | refine rowW.drewN ?_ _)) ))); go_simp; (try go_bits); refine hK _ _ ?_; clear hK K)
    refine flow_nil ?_
    rintro w' ⟨⟨nq, rfl⟩, hC⟩
    gi_wp2
    refine leave_marks (D := D) (v := .tuple #[W4 q, W4 r]) ?_ rfl ?_
    · simp only [World.heap_drewN]
      rw [heap_set_ne, heap_set_ne, heap_set_ne, heap_set_ne, heap_set_ne, heap_set_ne, heap_set_ne, heap_set_ne]
      · exact hD
      all_goals omega
    · intro W' hb5
      have hc5 := (bcell hb5).1
      have d1 : w.heap.size + 1 < D := by omega
      have d2 : w.heap.size + 1 + 1 < D := by omega
      refine ⟨by simp only [results, Try.results57]; go_simp, by rw [HQ.out, HR.out], ?_⟩
      refine Below.trans ?_ (hb5.mono (by omega))
      refine below_drewN ?_ _
      repeat refine Below.setCell ?_ (by simp only; omega) _
      exact hbel
end Go.Proofs.Ytmegpggpndjjcaa
