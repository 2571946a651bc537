/-
  Contracts of word.Extend, and of the document's Extend. Conditions: none.
-/
import Derived.Test.YtmegpggpndjjcaaRight
namespace Go.Proofs.Ytmegpggpndjjcaa
open Go.RowKit
attribute [local go_sem] leftBy
set_option linter.unusedSimpArgs false
set_option linter.unusedVariables false


/-- A sign extended, by the bit at each place. -/
def extB (k a : Nat) : Nat → Bool := fun j => if 8 * k + 8 ≤ j then bitsOf a (8 * k + 7) else bitsOf a j
/-- A sign extended from byte k on. -/
def extW (k a : Nat) : Nat := if k ≤ 30 then downW (248 - 8 * k) (shlW (248 - 8 * k) a) (negB (shlW (248 - 8 * k) a)) else a

theorem negB_bit {a : Nat} (ha : a < Q256) : negB a = a.testBit 255 := by
  unfold negB
  have e : M64 * M64 * M64 * 9223372036854775808 = 2 ^ 255 := by decide +kernel
  rw [e]
  have h : a < 2 ^ (255 + 1) := by rw [← Q256_pow]; exact ha
  by_cases hb : 2 ^ 255 ≤ a
  · rw [decide_eq_true hb, Nat.testBit_eq_decide_div_mod_eq]
    have : a / 2 ^ 255 = 1 := by
      have h1 : a / 2 ^ 255 < 2 := (Nat.div_lt_iff_lt_mul (Nat.two_pow_pos _)).2 (by rw [Nat.pow_succ] at h; omega)
      have h2 : 1 ≤ a / 2 ^ 255 := (Nat.le_div_iff_mul_le (Nat.two_pow_pos _)).2 (by omega)
      omega
    rw [this]
    rfl
  · rw [decide_eq_false hb, Nat.testBit_lt_two_pow (by omega)]

theorem shlW_bit {n a : Nat} (hn : n < 256) (j : Nat) : (shlW n a).testBit j = (decide (j < 256) && (decide (n ≤ j) && a.testBit (j - n))) := by
  unfold shlW
  rw [if_pos hn, Q256_pow, Nat.testBit_mod_two_pow, Nat.testBit_mul_two_pow]

theorem extW_lt {k a : Nat} (ha : a < Q256) : extW k a < Q256 := by
  unfold extW
  split
  · exact downW_lt (shlW_lt _ _)
  · exact ha

theorem ext_of {k a : Nat} (ha : a < Q256) (hk : k ≤ 30) : ofB (extB k a) 256 = extW k a := by
  refine ofB_eq (extW_lt ha) fun j hj => ?_
  unfold extW extB
  rw [if_pos hk, downW_bit (shlW_lt _ _) (by omega), negB_bit (shlW_lt _ _), shlW_bit (by omega), shlW_bit (by omega)]
  by_cases h : 8 * k + 8 ≤ j
  · have h1 : ¬ j + (248 - 8 * k) < 256 := by omega
    have h2 : 248 - 8 * k ≤ 255 := by omega
    have h3 : 255 - (248 - 8 * k) = 8 * k + 7 := by omega
    rw [if_pos h, if_neg h1, h3, bitsOf_bit]
    simp [hj, h2]
  · have h1 : j + (248 - 8 * k) < 256 := by omega
    have h2 : 248 - 8 * k ≤ j + (248 - 8 * k) := by omega
    have h3 : j + (248 - 8 * k) - (248 - 8 * k) = j := by omega
    rw [if_neg h, if_pos h1, h3, bitsOf_bit]
    simp [h1, h2]

attribute [local irreducible] lb shlW downW extW negB bitsOf bitA extB ofB

set_option maxHeartbeats 4000000 in
/-- word.Extend. -/
theorem Extend_any (k a : Nat) (hk : k < Q256) (ha : a < Q256) (w : World) :
    Calls Try.prog 49 #[W4 k, W4 a] w fun e w' => e = .returned (W4 (extW k a)) ∧ Below w.heap.size w w' := by
  have c1 := fun W => small_any k hk W
  by_cases h30 : k ≤ 30
  · rw [show decide (k < 256) = true from decide_eq_true (by omega), lb_self (show k < M64 by unfold M64; omega)] at c1
    have hu : 248 - 8 * k < M64 := by unfold M64; omega
    have huQ : 248 - 8 * k < Q256 := by unfold Q256; omega
    have c2 := fun W => Of_any (248 - 8 * k) hu W
    have eu : ((248 - 8 * k : Nat) : Int) = 248 - 8 * ((k : Nat) : Int) := by omega
    rw [eu] at c2
    have c3 := fun W => Shl_any (248 - 8 * k) a huQ ha W
    have c4 := fun W => Sar_any (248 - 8 * k) (shlW (248 - 8 * k) a) huQ (shlW_lt _ _) W
    have he : extW k a = downW (248 - 8 * k) (shlW (248 - 8 * k) a) (negB (shlW (248 - 8 * k) a)) := by unfold extW; rw [if_pos h30]
    rw [he]
    generalize downW (248 - 8 * k) (shlW (248 - 8 * k) a) (negB (shlW (248 - 8 * k) a)) = t at *
    generalize shlW (248 - 8 * k) a = s at *
    clear he eu
    generalize 248 - 8 * k = u at c2 c3 c4
    have hkI : ((k : Nat) : Int) ≤ 30 := by omega
    clear hu huQ
    go_enter Try.func49, Try.ntmps49
    go_wp2_with (first | (go_at_call 70; with_reducible refine (c1 _).mono ?_; rintro e wa ⟨rfl, hb_wa⟩; have hc_wa := (bcell hb_wa).1; have hf_wa := (bcell hb_wa).2; have hz_wa : _ ≤ wa.heap.size := hb_wa.size; (try simp only [World.size_alloc, World.heap_drewN, World.size_setCell, heap_drew] at hc_wa hf_wa hz_wa); have hz_wa_w_0 : w.heap.size < wa.heap.size := (by omega); have hz_wa_w_1 : w.heap.size + 1 < wa.heap.size := (by omega); have hz_wa_w_2 : w.heap.size + 1 + 1 < wa.heap.size := (by omega)) | (go_at_call 35; with_reducible refine (c2 _).mono ?_; rintro e wb ⟨rfl, hb_wb⟩; have hc_wb := (bcell hb_wb).1; have hf_wb := (bcell hb_wb).2; have hz_wb : _ ≤ wb.heap.size := hb_wb.size; (try simp only [World.size_alloc, World.heap_drewN, World.size_setCell, heap_drew] at hc_wb hf_wb hz_wb); have hz_wb_w_0 : w.heap.size < wb.heap.size := (by omega); have hz_wb_w_1 : w.heap.size + 1 < wb.heap.size := (by omega); have hz_wb_w_2 : w.heap.size + 1 + 1 < wb.heap.size := (by omega)))
    refine wp_flow (fun k => ([1, 1, 1, 1, 1, 2] : List Nat).getD k 1) (Below (wb.heap.size + 1)) _ (Below.drew (Below.refl _ _)) (by kernel_rfl) (by kernel_rfl) ?_
    (refine flow_quiet rfl rfl (fun K hK => ?_); apply Exists.intro; apply And.intro; (focus (intro w' hw'; have hc := (bcell hw').1; go_simp; (try go_bits); all_goals (first | exact rfl | exact ⟨rfl, hw'⟩))); go_simp; (try go_bits); refine hK _ ?_; clear hK K)
    (refine flow_quiet rfl rfl (fun K hK => ?_); apply Exists.intro; apply And.intro; (focus (intro w' hw'; have hc := (bcell hw').1; go_simp; (try go_bits); all_goals (first | exact rfl | exact ⟨rfl, hw'⟩))); go_simp; (try go_bits); refine hK _ ?_; clear hK K)
    (refine flow_quiet rfl rfl (fun K hK => ?_); apply Exists.intro; apply And.intro; (focus (intro w' hw'; have hc := (bcell hw').1; go_simp; (try go_bits); all_goals (first | exact rfl | exact ⟨rfl, hw'⟩))); go_simp; (try go_bits); refine hK _ ?_; clear hK K)
    first | (refine flow_quiet rfl rfl (fun K hK => ?_); apply Exists.intro; apply And.intro; (focus (intro w' hw'; have hc := (bcell hw').1; go_simp; (try go_bits); all_goals (go_at_call 38; with_reducible refine (c3 _).mono ?_; rintro e w2 ⟨rfl, hb⟩; exact ⟨rfl, hw'.trans (hb.mono (below_le hw' (by simp)))⟩))); go_simp; (try go_bits); refine hK _ ?_; clear hK K) | (refine flow_quiet rfl rfl (fun K hK => ?_); apply Exists.intro; apply And.intro; (focus (intro w' hw'; have hc := (bcell hw').1; go_simp; (try go_bits); all_goals (go_at_call 38; refine (c3 _).mono ?_; rintro e w2 ⟨rfl, hb⟩; exact ⟨rfl, hw'.trans (hb.mono (below_le hw' (by simp)))⟩))); go_simp; (try go_bits); refine hK _ ?_; clear hK K)
    first | (refine flow_quiet rfl rfl (fun K hK => ?_); apply Exists.intro; apply And.intro; (focus (intro w' hw'; have hc := (bcell hw').1; go_simp; (try go_bits); all_goals (go_at_call 47; with_reducible refine (c4 _).mono ?_; rintro e w2 ⟨rfl, hb⟩; exact ⟨rfl, hw'.trans (hb.mono (below_le hw' (by simp)))⟩))); go_simp; (try go_bits); refine hK _ ?_; clear hK K) | (refine flow_quiet rfl rfl (fun K hK => ?_); apply Exists.intro; apply And.intro; (focus (intro w' hw'; have hc := (bcell hw').1; go_simp; (try go_bits); all_goals (go_at_call 47; refine (c4 _).mono ?_; rintro e w2 ⟨rfl, hb⟩; exact ⟨rfl, hw'.trans (hb.mono (below_le hw' (by simp)))⟩))); go_simp; (try go_bits); refine hK _ ?_; clear hK K)
    (refine flow_eff rfl rfl (fun K hK => ?_); apply Exists.intro; apply Exists.intro; apply And.intro; (focus (intro w' hw'; have hc := (bcell hw').1; have hf := (bcell hw').2; go_simp; (try go_bits); refine ⟨rfl, ?_⟩; (repeat apply below_store); exact hw')); go_simp; (try go_bits); refine hK _ _ ?_; clear hK K)
    refine flow_nil ?_
    intro w' hw'
    have hc_w' := (bcell hw').1; have hf_w' := (bcell hw').2; have hz_w' : _ ≤ w'.heap.size := hw'.size; (try simp only [World.size_alloc, World.heap_drewN, World.size_setCell, heap_drew] at hc_w' hf_w' hz_w'); have hz_w'_w_0 : w.heap.size < w'.heap.size := (by omega); have hz_w'_w_1 : w.heap.size + 1 < w'.heap.size := (by omega); have hz_w'_w_2 : w.heap.size + 1 + 1 < w'.heap.size := (by omega)
    go_wp2
    refine bodyPost_ret (by simp only [results, Try.results49]; go_simp) rfl ⟨rfl, ?_⟩
    repeat (with_reducible first | exact Below.refl _ _ | assumption | refine below_drewN ?_ _ | refine Below.drew ?_ | refine below_setRow' ?_ (by first | omega | (simp; done) | (simp; omega)) _ | refine Below.setCell ?_ (by first | omega | (simp; done) | (simp; omega)) _ | refine Below.alloc ?_ (by first | omega | (simp; done) | (simp; omega)) _ | refine Below.trans ?_ (Below.mono (by assumption) (by first | omega | (simp; done) | (simp; omega))))
  · have he : extW k a = a := by unfold extW; rw [if_neg h30]
    rw [he]
    clear he
    by_cases h256 : k < 256
    · rw [show decide (k < 256) = true from decide_eq_true h256, lb_self (show k < M64 by unfold M64; omega)] at c1
      have hkI : decide (30 < ((k : Nat) : Int)) = true := by simp only [decide_eq_true_eq]; omega
      clear h30
      go_enter Try.func49, Try.ntmps49
      go_wp2_with (go_at_call 70; refine (c1 _).mono ?_; rintro e wa ⟨rfl, hb_wa⟩; have hc_wa := (bcell hb_wa).1; have hf_wa := (bcell hb_wa).2; have hz_wa : _ ≤ wa.heap.size := hb_wa.size; (try simp only [World.size_alloc, World.heap_drewN, World.size_setCell, heap_drew] at hc_wa hf_wa hz_wa); have hz_wa_w_0 : w.heap.size < wa.heap.size := (by omega); have hz_wa_w_1 : w.heap.size + 1 < wa.heap.size := (by omega); have hz_wa_w_2 : w.heap.size + 1 + 1 < wa.heap.size := (by omega))
      refine bodyPost_ret (by simp only [results, Try.results49]; go_simp) rfl ⟨rfl, ?_⟩
      repeat (with_reducible first | exact Below.refl _ _ | assumption | refine below_drewN ?_ _ | refine Below.drew ?_ | refine below_setRow' ?_ (by first | omega | (simp; done) | (simp; omega)) _ | refine Below.setCell ?_ (by first | omega | (simp; done) | (simp; omega)) _ | refine Below.alloc ?_ (by first | omega | (simp; done) | (simp; omega)) _ | refine Below.trans ?_ (Below.mono (by assumption) (by first | omega | (simp; done) | (simp; omega))))
    · rw [show decide (k < 256) = false from decide_eq_false h256] at c1
      clear h30 h256
      go_enter Try.func49, Try.ntmps49
      go_wp2_with (go_at_call 70; refine (c1 _).mono ?_; rintro e wa ⟨rfl, hb_wa⟩; have hc_wa := (bcell hb_wa).1; have hf_wa := (bcell hb_wa).2; have hz_wa : _ ≤ wa.heap.size := hb_wa.size; (try simp only [World.size_alloc, World.heap_drewN, World.size_setCell, heap_drew] at hc_wa hf_wa hz_wa); have hz_wa_w_0 : w.heap.size < wa.heap.size := (by omega); have hz_wa_w_1 : w.heap.size + 1 < wa.heap.size := (by omega); have hz_wa_w_2 : w.heap.size + 1 + 1 < wa.heap.size := (by omega))
      refine bodyPost_ret (by simp only [results, Try.results49]; go_simp) rfl ⟨rfl, ?_⟩
      repeat (with_reducible first | exact Below.refl _ _ | assumption | refine below_drewN ?_ _ | refine Below.drew ?_ | refine below_setRow' ?_ (by first | omega | (simp; done) | (simp; omega)) _ | refine Below.setCell ?_ (by first | omega | (simp; done) | (simp; omega)) _ | refine Below.alloc ?_ (by first | omega | (simp; done) | (simp; omega)) _ | refine Below.trans ?_ (Below.mono (by assumption) (by first | omega | (simp; done) | (simp; omega))))

/-- The bits of an extension below j, and the word's own from j on. -/
def extT (k a j : Nat) : Nat → Bool := fun i => if i < j then extB k a i else bitsOf a i
theorem extT_all (k a i : Nat) (h : i < 256) : extT k a 256 i = extB k a i := by unfold extT; rw [if_pos h]
theorem extT_low (k a i : Nat) : extT k a (8 * k + 8) i = bitsOf a i := by
  unfold extT
  split
  · rename_i h
    unfold extB
    rw [if_neg (by omega)]
  · rfl
theorem extT_sign (k a j : Nat) (h : 8 * k + 8 ≤ j) : extT k a j (8 * k + 7) = bitsOf a (8 * k + 7) := by
  unfold extT extB
  rw [if_pos (by omega), if_neg (by omega)]
theorem extT_succ (k a j i : Nat) (h : 8 * k + 8 ≤ j) : (if i = j then bitsOf a (8 * k + 7) else extT k a j i) = extT k a (j + 1) i := by
  unfold extT
  by_cases hi : i = j
  · subst hi
    rw [if_pos rfl, if_pos (by omega)]
    unfold extB
    rw [if_pos h]
  · rw [if_neg hi]
    by_cases h2 : i < j
    · rw [if_pos h2, if_pos (by omega)]
    · rw [if_neg h2, if_neg (by omega)]

attribute [local irreducible] extT

set_option maxRecDepth 100000 in
set_option maxHeartbeats 4000000 in
/-- The document's Extend. -/
theorem ref_Extend (k a : Nat) (hk : k < Q256) (ha : a < Q256) (w : World) :
    Calls Try.prog 50 #[W4 k, W4 a] w fun e w' => e = .returned (W4 (extW k a)) ∧ Below w.heap.size w w' := by
  have hz := zeroA
  have c0 : ∀ W, Calls Try.prog 73 #[W4 k, .int .u64 31] W fun e w' => e = .returned (.int .i64 (min k 31 : Nat)) ∧ Below W.heap.size W w' := fun W => ref_upTo k 31 hk (by decide) W
  by_cases h30 : k ≤ 30
  · rw [Nat.min_eq_left (by omega)] at c0
    have c2 := fun W => ref_ofBits (extB k a) W
    rw [ext_of ha h30] at c2
    generalize extW k a = T at *
    have hkI : ((k : Nat) : Int) ≤ 30 := by omega
    go_enter Try.func50, Try.ntmps50
    go_wp2_with (first | (go_at_call 73; with_reducible refine (c0 _).mono ?_; rintro e w0 ⟨rfl, hb_w0⟩; have hc_w0 := (bcell hb_w0).1; have hf_w0 := (bcell hb_w0).2; have hz_w0 : _ ≤ w0.heap.size := hb_w0.size; (try simp only [World.size_alloc, World.heap_drewN, World.size_setCell, heap_drew] at hc_w0 hf_w0 hz_w0); have hz_w0_w_0 : w.heap.size < w0.heap.size := (by omega); have hz_w0_w_1 : w.heap.size + 1 < w0.heap.size := (by omega); have hz_w0_w_2 : w.heap.size + 1 + 1 < w0.heap.size := (by omega)) | (go_at_call 68; refine (ref_Bits a ha _).mono ?_; rintro e w1 ⟨rfl, hb_w1⟩; have hc_w1 := (bcell hb_w1).1; have hf_w1 := (bcell hb_w1).2; have hz_w1 : _ ≤ w1.heap.size := hb_w1.size; (try simp only [World.size_alloc, World.heap_drewN, World.size_setCell, heap_drew] at hc_w1 hf_w1 hz_w1); have hz_w1_w_0 : w.heap.size < w1.heap.size := (by omega); have hz_w1_w_1 : w.heap.size + 1 < w1.heap.size := (by omega); have hz_w1_w_2 : w.heap.size + 1 + 1 < w1.heap.size := (by omega); have hbz := bitA_size (bitsOf a); have hst := (storeA' (bitsOf a) (rowA.new (W := w1) (f := fun _ => false) rfl)).trans (congrArg _ (World.setRow_alloc_new w1 (bitA fun _ => false) (bitA (bitsOf a)) 56))))
    clear hbz hst
    go_loopw [7] (fun i wr => ∃ j : Nat, 8 * k + 8 ≤ j ∧ j ≤ 256 ∧ i = .int .i64 j ∧ rowA wr w1.heap.size (extT k a j) ∧ rowW 24 wr (w.heap.size + 1 + 1) 0 ∧ Below w.heap.size w wr)
      (fun i _ => 256 - (intOf i).toNat)
    case atStart =>
      refine ⟨8 * k + 8, Nat.le_refl _, by omega, by go_num, (rowA.new rfl).to fun i _ => (extT_low k a i).symm, ?_, ?_⟩
      · exact (((rowW.new0 (by simp)).below hb_w0 (by simp)).below hb_w1 (by omega)).alloc _
      · skip
        repeat (with_reducible first | exact Below.refl _ _ | assumption | refine below_drewN ?_ _ | refine Below.drew ?_ | refine below_setRow' ?_ (by first | omega | (simp; done) | (simp; omega)) _ | refine Below.setCell ?_ (by first | omega | (simp; done) | (simp; omega)) _ | refine Below.alloc ?_ (by first | omega | (simp; done) | (simp; omega)) _ | refine Below.trans ?_ (Below.mono (by assumption) (by first | omega | (simp; done) | (simp; omega))))
    case round =>
      obtain ⟨j, hkj, hj, rfl, hrow, hres, hbel⟩ := hrel
      have hsz := hrow.lt
      have hrf := hrow.free
      by_cases h256 : j < 256
      · have co := hrow.cellAt h256
        have cb := hrow.cellAt (j := 8 * k + 7) (by omega)
        rw [extT_sign k a j hkj] at cb
        obtain ⟨p, hp⟩ : ∃ p, p = 8 * k + 7 := ⟨_, rfl⟩
        have hpI : 8 * ((k : Nat) : Int) + 7 = ((p : Nat) : Int) := by omega
        have hp256 : ((p : Nat) : Int) < 256 := by omega
        rw [← hp] at cb
        have HP := Lib.hid (And.intro hp hkj)
        clear hp hkj
        go_wp2
        go_roundw
        case rel =>
          obtain ⟨hp, hkj⟩ := HP.out
          refine ⟨j + 1, by omega, by omega, by go_num, hrow.store.to fun i _ => ?_, hres.set (by omega), ?_⟩
          · rw [hp]
            exact extT_succ k a j i hkj
          repeat (with_reducible first | exact Below.refl _ _ | assumption | refine below_drewN ?_ _ | refine Below.drew ?_ | refine below_setRow' ?_ (by first | omega | (simp; done) | (simp; omega)) _ | refine Below.setCell ?_ (by first | omega | (simp; done) | (simp; omega)) _ | refine Below.alloc ?_ (by first | omega | (simp; done) | (simp; omega)) _ | refine Below.trans ?_ (Below.mono (by assumption) (by first | omega | (simp; done) | (simp; omega))))
        case measure => simp [intOf]; omega
      · obtain rfl : j = 256 := by omega
        have hrow' := hrow.to (extT_all k a)
        obtain ⟨z0, z1, z2, z3, zf⟩ := hres.cells
        have hs2 : w.heap.size + 1 + 1 < wr.heap.size := hres.lt
        clear hrow hkj
        go_wp2
        refine wp_load_row 56 (.tmp 6) rfl _ rfl _ _ _ _ hrow' underA rfl (sizeA _) ?_
        go_wp2_with (go_at_call 74; with_reducible refine (c2 _).mono ?_; rintro e wb ⟨rfl, hb_wb⟩; have hc_wb := (bcell hb_wb).1; have hf_wb := (bcell hb_wb).2; have hz_wb : _ ≤ wb.heap.size := hb_wb.size; (try simp only [World.size_alloc, World.heap_drewN, World.size_setCell, heap_drew] at hc_wb hf_wb hz_wb))
        refine bodyPost_ret (by simp only [results, Try.results50]; go_simp) rfl ⟨rfl, ?_⟩
        repeat (with_reducible first | exact Below.refl _ _ | assumption | refine below_drewN ?_ _ | refine Below.drew ?_ | refine below_setRow' ?_ (by first | omega | (simp; done) | (simp; omega)) _ | refine Below.setCell ?_ (by first | omega | (simp; done) | (simp; omega)) _ | refine Below.alloc ?_ (by first | omega | (simp; done) | (simp; omega)) _ | refine Below.trans ?_ (Below.mono (by assumption) (by first | omega | (simp; done) | (simp; omega))))
  · rw [Nat.min_eq_right (by omega)] at c0
    have he : extW k a = a := by unfold extW; rw [if_neg h30]
    rw [he]
    clear he h30
    go_enter Try.func50, Try.ntmps50
    go_wp2_with (go_at_call 73; refine (c0 _).mono ?_; rintro e wa ⟨rfl, hb_wa⟩; have hc_wa := (bcell hb_wa).1; have hf_wa := (bcell hb_wa).2; have hz_wa : _ ≤ wa.heap.size := hb_wa.size; (try simp only [World.size_alloc, World.heap_drewN, World.size_setCell, heap_drew] at hc_wa hf_wa hz_wa); have hz_wa_w_0 : w.heap.size < wa.heap.size := (by omega); have hz_wa_w_1 : w.heap.size + 1 < wa.heap.size := (by omega); have hz_wa_w_2 : w.heap.size + 1 + 1 < wa.heap.size := (by omega))
    refine bodyPost_ret (by simp only [results, Try.results50]; go_simp) rfl ⟨rfl, ?_⟩
    repeat (with_reducible first | exact Below.refl _ _ | assumption | refine below_drewN ?_ _ | refine Below.drew ?_ | refine below_setRow' ?_ (by first | omega | (simp; done) | (simp; omega)) _ | refine Below.setCell ?_ (by first | omega | (simp; done) | (simp; omega)) _ | refine Below.alloc ?_ (by first | omega | (simp; done) | (simp; omega)) _ | refine Below.trans ?_ (Below.mono (by assumption) (by first | omega | (simp; done) | (simp; omega))))
end Go.Proofs.Ytmegpggpndjjcaa
