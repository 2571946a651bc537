/-
  Contracts of the document's shifts down, and of its SLess. Conditions: none.
-/
import Derived.Test.YtmegpggpndjjcaaShiftR
namespace Go.Proofs.Ytmegpggpndjjcaa
open Go.RowKit
attribute [local go_sem] leftBy
set_option linter.unusedSimpArgs false
set_option linter.unusedVariables false


attribute [local irreducible] lb bitsOf bitOf bitA ofB upB upT downB downT shlW downW negB ltB

set_option maxRecDepth 100000 in
set_option maxHeartbeats 4000000 in
/-- right. -/
theorem ref_right (n a : Nat) (f : Bool) (hn : n < Q256) (ha : a < Q256) (w : World) :
    Calls Try.prog 75 #[W4 n, W4 a, .bool f] w fun e w' => e = .returned (W4 (downW n a f)) ∧ Below w.heap.size w w' := by
  have hz := zeroA
  have c0 : ∀ W, Calls Try.prog 73 #[W4 n, .int .u64 256] W fun e w' => e = .returned (.int .i64 (min n 256 : Nat)) ∧ Below W.heap.size W w' := fun W => ref_upTo n 256 hn (by decide) W
  have c2 := fun W => ref_ofBits (downB (min n 256) a f) W
  rw [downB_of ha] at c2
  generalize downW n a f = T at *
  have hm : min n 256 ≤ 256 := Nat.min_le_right _ _
  generalize min n 256 = m at *
  go_enter Try.func75, Try.ntmps75
  go_wp2_with (first | (go_at_call 73; with_reducible refine (c0 _).mono ?_; rintro e w0 ⟨rfl, hb_w0⟩; have hc_w0 := (bcell hb_w0).1; have hf_w0 := (bcell hb_w0).2; have hz_w0 : _ ≤ w0.heap.size := hb_w0.size; (try simp only [World.size_alloc, World.heap_drewN, World.size_setCell, heap_drew] at hc_w0 hf_w0 hz_w0); have hz_w0_w_0 : w.heap.size < w0.heap.size := (by omega); have hz_w0_w_1 : w.heap.size + 1 < w0.heap.size := (by omega); have hz_w0_w_2 : w.heap.size + 1 + 1 < w0.heap.size := (by omega)) | (go_at_call 68; refine (ref_Bits a ha _).mono ?_; rintro e w1 ⟨rfl, hb_w1⟩; have hc_w1 := (bcell hb_w1).1; have hf_w1 := (bcell hb_w1).2; have hz_w1 : _ ≤ w1.heap.size := hb_w1.size; (try simp only [World.size_alloc, World.heap_drewN, World.size_setCell, heap_drew] at hc_w1 hf_w1 hz_w1); have hz_w1_w_0 : w.heap.size < w1.heap.size := (by omega); have hz_w1_w_1 : w.heap.size + 1 < w1.heap.size := (by omega); have hz_w1_w_2 : w.heap.size + 1 + 1 < w1.heap.size := (by omega); have hbz := bitA_size (bitsOf a); have hst := (storeA' (bitsOf a) (rowA.new (W := w1) (f := fun _ => false) rfl)).trans (congrArg _ (World.setRow_alloc_new w1 (bitA fun _ => false) (bitA (bitsOf a)) 56))))
  clear hbz hst
  go_loopw [10] (fun i wr => ∃ j : Nat, j ≤ 256 ∧ i = .int .i64 j ∧ rowA wr (w1.heap.size + 1) (downT m a f j) ∧ rowA wr w1.heap.size (bitsOf a) ∧ rowW 24 wr (w.heap.size + 1 + 1) 0 ∧ Below w.heap.size w wr)
    (fun i _ => 256 - (intOf i).toNat)
  case atStart =>
    refine ⟨0, by omega, rfl, (rowA.new (by simp)).to fun k _ => (downT_low m a f k).symm, (rowA.new rfl).alloc _, ?_, ?_⟩
    · exact ((((rowW.new0 (by simp)).below hb_w0 (by simp)).below hb_w1 (by omega)).alloc _).alloc _
    · skip
      repeat (with_reducible first | exact Below.refl _ _ | assumption | refine below_drewN ?_ _ | refine Below.drew ?_ | refine below_setRow' ?_ (by first | omega | (simp; done) | (simp; omega)) _ | refine Below.setCell ?_ (by first | omega | (simp; done) | (simp; omega)) _ | refine Below.alloc ?_ (by first | omega | (simp; done) | (simp; omega)) _ | refine Below.trans ?_ (Below.mono (by assumption) (by first | omega | (simp; done) | (simp; omega))))
  case round =>
    obtain ⟨j, hj, rfl, hrow, hbits, hres, hbel⟩ := hrel
    have hsz := hrow.lt
    have hrf := hrow.free
    by_cases h256 : j < 256
    · have co := hrow.cellAt h256
      by_cases hb : j + m < 256
      · have cb := hbits.cellAt hb
        have hbi : ((j : Nat) : Int) + ((m : Nat) : Int) < 256 := by omega
        go_wp2
        go_roundw
        case rel =>
          refine ⟨j + 1, by omega, by go_num, (hrow.store.store).to fun k _ => downT_bit m a f j k hb, (hbits.set (by omega)).set (by omega), (hres.set (by omega)).set (by omega), ?_⟩
          repeat (with_reducible first | exact Below.refl _ _ | assumption | refine below_drewN ?_ _ | refine Below.drew ?_ | refine below_setRow' ?_ (by first | omega | (simp; done) | (simp; omega)) _ | refine Below.setCell ?_ (by first | omega | (simp; done) | (simp; omega)) _ | refine Below.alloc ?_ (by first | omega | (simp; done) | (simp; omega)) _ | refine Below.trans ?_ (Below.mono (by assumption) (by first | omega | (simp; done) | (simp; omega))))
        case measure => simp [intOf]; omega
      · have hbi : decide (((j : Nat) : Int) + ((m : Nat) : Int) < 256) = false := by simp only [decide_eq_false_iff_not]; omega
        have HB := Lib.hid hb
        clear hb
        go_wp2
        go_roundw
        case rel =>
          refine ⟨j + 1, by omega, by go_num, hrow.store.to fun k _ => downT_in m a f j k HB.out, hbits.set (by omega), hres.set (by omega), ?_⟩
          repeat (with_reducible first | exact Below.refl _ _ | assumption | refine below_drewN ?_ _ | refine Below.drew ?_ | refine below_setRow' ?_ (by first | omega | (simp; done) | (simp; omega)) _ | refine Below.setCell ?_ (by first | omega | (simp; done) | (simp; omega)) _ | refine Below.alloc ?_ (by first | omega | (simp; done) | (simp; omega)) _ | refine Below.trans ?_ (Below.mono (by assumption) (by first | omega | (simp; done) | (simp; omega))))
        case measure => simp [intOf]; omega
    · obtain rfl : j = 256 := by omega
      have hrow' := hrow.to (downT_all m a f)
      obtain ⟨z0, z1, z2, z3, zf⟩ := hres.cells
      have hs2 : w.heap.size + 1 + 1 < wr.heap.size := hres.lt
      clear hrow
      go_wp2
      refine wp_load_row 56 (.tmp 9) rfl _ rfl _ _ _ _ hrow' underA rfl (sizeA _) ?_
      go_wp2_with (go_at_call 74; with_reducible refine (c2 _).mono ?_; rintro e wb ⟨rfl, hb_wb⟩; have hc_wb := (bcell hb_wb).1; have hf_wb := (bcell hb_wb).2; have hz_wb : _ ≤ wb.heap.size := hb_wb.size; (try simp only [World.size_alloc, World.heap_drewN, World.size_setCell, heap_drew] at hc_wb hf_wb hz_wb))
      refine bodyPost_ret (by simp only [results, Try.results75]; go_simp) rfl ⟨rfl, ?_⟩
      repeat (with_reducible first | exact Below.refl _ _ | assumption | refine below_drewN ?_ _ | refine Below.drew ?_ | refine below_setRow' ?_ (by first | omega | (simp; done) | (simp; omega)) _ | refine Below.setCell ?_ (by first | omega | (simp; done) | (simp; omega)) _ | refine Below.alloc ?_ (by first | omega | (simp; done) | (simp; omega)) _ | refine Below.trans ?_ (Below.mono (by assumption) (by first | omega | (simp; done) | (simp; omega))))

/-- The document's Shr. -/
theorem ref_Shr (n a : Nat) (hn : n < Q256) (ha : a < Q256) (w : World) :
    Calls Try.prog 46 #[W4 n, W4 a] w fun e w' => e = .returned (W4 (downW n a false)) ∧ Below w.heap.size w w' := by
  have c1 := fun W => ref_right n a false hn ha W
  generalize downW n a false = T at *
  go_enter Try.func46, Try.ntmps46
  go_wp2_with (go_at_call 75; refine (c1 _).mono ?_; rintro e wa ⟨rfl, hb_wa⟩; have hc_wa := (bcell hb_wa).1; have hf_wa := (bcell hb_wa).2; have hz_wa : _ ≤ wa.heap.size := hb_wa.size; (try simp only [World.size_alloc, World.heap_drewN, World.size_setCell, heap_drew] at hc_wa hf_wa hz_wa); have hz_wa_w_0 : w.heap.size < wa.heap.size := (by omega); have hz_wa_w_1 : w.heap.size + 1 < wa.heap.size := (by omega); have hz_wa_w_2 : w.heap.size + 1 + 1 < wa.heap.size := (by omega))
  refine bodyPost_ret (by simp only [results, Try.results46]; go_simp) rfl ⟨rfl, ?_⟩
  repeat (with_reducible first | exact Below.refl _ _ | assumption | refine below_drewN ?_ _ | refine Below.drew ?_ | refine below_setRow' ?_ (by first | omega | (simp; done) | (simp; omega)) _ | refine Below.setCell ?_ (by first | omega | (simp; done) | (simp; omega)) _ | refine Below.alloc ?_ (by first | omega | (simp; done) | (simp; omega)) _ | refine Below.trans ?_ (Below.mono (by assumption) (by first | omega | (simp; done) | (simp; omega))))

/-- The document's Sar. -/
theorem ref_Sar (n a : Nat) (hn : n < Q256) (ha : a < Q256) (w : World) :
    Calls Try.prog 48 #[W4 n, W4 a] w fun e w' => e = .returned (W4 (downW n a (negB a))) ∧ Below w.heap.size w w' := by
  have c1 := fun W => ref_right n a (negB a) hn ha W
  have c2 := fun W => ref_negative a ha W
  generalize downW n a (negB a) = T at *
  generalize negB a = y at *
  go_enter Try.func48, Try.ntmps48
  go_wp2
  refine wp_flow (fun k => ([1, 1, 1, 1, 1, 2] : List Nat).getD k 1) (Below (w.heap.size + 3)) _ (Below.drew (Below.refl _ _)) (by kernel_rfl) (by kernel_rfl) ?_
  (refine flow_quiet rfl rfl (fun K hK => ?_); apply Exists.intro; apply And.intro; (focus (intro w' hw'; have hc := (bcell hw').1; go_simp; (try go_bits); all_goals (first | exact rfl | exact ⟨rfl, hw'⟩))); go_simp; (try go_bits); refine hK _ ?_; clear hK K)
  (refine flow_quiet rfl rfl (fun K hK => ?_); apply Exists.intro; apply And.intro; (focus (intro w' hw'; have hc := (bcell hw').1; go_simp; (try go_bits); all_goals (first | exact rfl | exact ⟨rfl, hw'⟩))); go_simp; (try go_bits); refine hK _ ?_; clear hK K)
  (refine flow_quiet rfl rfl (fun K hK => ?_); apply Exists.intro; apply And.intro; (focus (intro w' hw'; have hc := (bcell hw').1; go_simp; (try go_bits); all_goals (first | exact rfl | exact ⟨rfl, hw'⟩))); go_simp; (try go_bits); refine hK _ ?_; clear hK K)
  first | (refine flow_quiet rfl rfl (fun K hK => ?_); apply Exists.intro; apply And.intro; (focus (intro w' hw'; have hc := (bcell hw').1; go_simp; (try go_bits); all_goals (go_at_call 63; with_reducible refine (c2 _).mono ?_; rintro e w2 ⟨rfl, hb⟩; exact ⟨rfl, hw'.trans (hb.mono (below_le hw' (by simp)))⟩))); go_simp; (try go_bits); refine hK _ ?_; clear hK K) | (refine flow_quiet rfl rfl (fun K hK => ?_); apply Exists.intro; apply And.intro; (focus (intro w' hw'; have hc := (bcell hw').1; go_simp; (try go_bits); all_goals (go_at_call 63; refine (c2 _).mono ?_; rintro e w2 ⟨rfl, hb⟩; exact ⟨rfl, hw'.trans (hb.mono (below_le hw' (by simp)))⟩))); go_simp; (try go_bits); refine hK _ ?_; clear hK K)
  first | (refine flow_quiet rfl rfl (fun K hK => ?_); apply Exists.intro; apply And.intro; (focus (intro w' hw'; have hc := (bcell hw').1; go_simp; (try go_bits); all_goals (go_at_call 75; with_reducible refine (c1 _).mono ?_; rintro e w2 ⟨rfl, hb⟩; exact ⟨rfl, hw'.trans (hb.mono (below_le hw' (by simp)))⟩))); go_simp; (try go_bits); refine hK _ ?_; clear hK K) | (refine flow_quiet rfl rfl (fun K hK => ?_); apply Exists.intro; apply And.intro; (focus (intro w' hw'; have hc := (bcell hw').1; go_simp; (try go_bits); all_goals (go_at_call 75; refine (c1 _).mono ?_; rintro e w2 ⟨rfl, hb⟩; exact ⟨rfl, hw'.trans (hb.mono (below_le hw' (by simp)))⟩))); go_simp; (try go_bits); refine hK _ ?_; clear hK K)
  (refine flow_eff rfl rfl (fun K hK => ?_); apply Exists.intro; apply Exists.intro; apply And.intro; (focus (intro w' hw'; have hc := (bcell hw').1; have hf := (bcell hw').2; go_simp; (try go_bits); refine ⟨rfl, ?_⟩; (repeat apply below_store); exact hw')); go_simp; (try go_bits); refine hK _ _ ?_; clear hK K)
  refine flow_nil ?_
  intro w' hw'
  have hc_w' := (bcell hw').1; have hf_w' := (bcell hw').2; have hz_w' : _ ≤ w'.heap.size := hw'.size; (try simp only [World.size_alloc, World.heap_drewN, World.size_setCell, heap_drew] at hc_w' hf_w' hz_w'); have hz_w'_w_0 : w.heap.size < w'.heap.size := (by omega); have hz_w'_w_1 : w.heap.size + 1 < w'.heap.size := (by omega); have hz_w'_w_2 : w.heap.size + 1 + 1 < w'.heap.size := (by omega)
  go_wp2
  refine bodyPost_ret (by simp only [results, Try.results48]; go_simp) rfl ⟨rfl, ?_⟩
  repeat (with_reducible first | exact Below.refl _ _ | assumption | refine below_drewN ?_ _ | refine Below.drew ?_ | refine below_setRow' ?_ (by first | omega | (simp; done) | (simp; omega)) _ | refine Below.setCell ?_ (by first | omega | (simp; done) | (simp; omega)) _ | refine Below.alloc ?_ (by first | omega | (simp; done) | (simp; omega)) _ | refine Below.trans ?_ (Below.mono (by assumption) (by first | omega | (simp; done) | (simp; omega))))

/-- The document's SLess. -/
theorem ref_SLess (a b : Nat) (ha : a < Q256) (hb : b < Q256) (w : World) :
    Calls Try.prog 54 #[W4 a, W4 b] w fun e w' => e = .returned (.bool (if negB a != negB b then negB a else ltB a b)) ∧ Below w.heap.size w w' := by
  have n1 := fun W => ref_negative a ha W
  have n2 := fun W => ref_negative b hb W
  have c1 := fun W => ref_Less a b ha hb W
  generalize negB a = na at *
  generalize negB b = nb at *
  generalize ltB a b = l at *
  cases na <;> cases nb
  all_goals
    go_enter Try.func54, Try.ntmps54
    go_wp2
    refine wp_flow (fun k => ([1, 1, 1, 1, 1] : List Nat).getD k 1) (Below (w.heap.size + 2)) _ (Below.drew (Below.refl _ _)) (by kernel_rfl) (by kernel_rfl) ?_
    (refine flow_quiet rfl rfl (fun K hK => ?_); apply Exists.intro; apply And.intro; (focus (intro w' hw'; have hc := (bcell hw').1; go_simp; (try go_bits); all_goals (first | exact rfl | exact ⟨rfl, hw'⟩))); go_simp; (try go_bits); refine hK _ ?_; clear hK K)
    first | (refine flow_quiet rfl rfl (fun K hK => ?_); apply Exists.intro; apply And.intro; (focus (intro w' hw'; have hc := (bcell hw').1; go_simp; (try go_bits); all_goals (go_at_call 63; with_reducible refine (n1 _).mono ?_; rintro e w2 ⟨rfl, hb⟩; exact ⟨rfl, hw'.trans (hb.mono (below_le hw' (by simp)))⟩))); go_simp; (try go_bits); refine hK _ ?_; clear hK K) | (refine flow_quiet rfl rfl (fun K hK => ?_); apply Exists.intro; apply And.intro; (focus (intro w' hw'; have hc := (bcell hw').1; go_simp; (try go_bits); all_goals (go_at_call 63; with_reducible refine (n2 _).mono ?_; rintro e w2 ⟨rfl, hb⟩; exact ⟨rfl, hw'.trans (hb.mono (below_le hw' (by simp)))⟩))); go_simp; (try go_bits); refine hK _ ?_; clear hK K) | (refine flow_quiet rfl rfl (fun K hK => ?_); apply Exists.intro; apply And.intro; (focus (intro w' hw'; have hc := (bcell hw').1; go_simp; (try go_bits); all_goals (go_at_call 63; refine (n1 _).mono ?_; rintro e w2 ⟨rfl, hb⟩; exact ⟨rfl, hw'.trans (hb.mono (below_le hw' (by simp)))⟩))); go_simp; (try go_bits); refine hK _ ?_; clear hK K) | (refine flow_quiet rfl rfl (fun K hK => ?_); apply Exists.intro; apply And.intro; (focus (intro w' hw'; have hc := (bcell hw').1; go_simp; (try go_bits); all_goals (go_at_call 63; refine (n2 _).mono ?_; rintro e w2 ⟨rfl, hb⟩; exact ⟨rfl, hw'.trans (hb.mono (below_le hw' (by simp)))⟩))); go_simp; (try go_bits); refine hK _ ?_; clear hK K)
    (refine flow_quiet rfl rfl (fun K hK => ?_); apply Exists.intro; apply And.intro; (focus (intro w' hw'; have hc := (bcell hw').1; go_simp; (try go_bits); all_goals (first | exact rfl | exact ⟨rfl, hw'⟩))); go_simp; (try go_bits); refine hK _ ?_; clear hK K)
    first | (refine flow_quiet rfl rfl (fun K hK => ?_); apply Exists.intro; apply And.intro; (focus (intro w' hw'; have hc := (bcell hw').1; go_simp; (try go_bits); all_goals (go_at_call 63; with_reducible refine (n1 _).mono ?_; rintro e w2 ⟨rfl, hb⟩; exact ⟨rfl, hw'.trans (hb.mono (below_le hw' (by simp)))⟩))); go_simp; (try go_bits); refine hK _ ?_; clear hK K) | (refine flow_quiet rfl rfl (fun K hK => ?_); apply Exists.intro; apply And.intro; (focus (intro w' hw'; have hc := (bcell hw').1; go_simp; (try go_bits); all_goals (go_at_call 63; with_reducible refine (n2 _).mono ?_; rintro e w2 ⟨rfl, hb⟩; exact ⟨rfl, hw'.trans (hb.mono (below_le hw' (by simp)))⟩))); go_simp; (try go_bits); refine hK _ ?_; clear hK K) | (refine flow_quiet rfl rfl (fun K hK => ?_); apply Exists.intro; apply And.intro; (focus (intro w' hw'; have hc := (bcell hw').1; go_simp; (try go_bits); all_goals (go_at_call 63; refine (n1 _).mono ?_; rintro e w2 ⟨rfl, hb⟩; exact ⟨rfl, hw'.trans (hb.mono (below_le hw' (by simp)))⟩))); go_simp; (try go_bits); refine hK _ ?_; clear hK K) | (refine flow_quiet rfl rfl (fun K hK => ?_); apply Exists.intro; apply And.intro; (focus (intro w' hw'; have hc := (bcell hw').1; go_simp; (try go_bits); all_goals (go_at_call 63; refine (n2 _).mono ?_; rintro e w2 ⟨rfl, hb⟩; exact ⟨rfl, hw'.trans (hb.mono (below_le hw' (by simp)))⟩))); go_simp; (try go_bits); refine hK _ ?_; clear hK K)
    (refine flow_quiet rfl rfl (fun K hK => ?_); apply Exists.intro; apply And.intro; (focus (intro w' hw'; have hc := (bcell hw').1; go_simp; (try go_bits); all_goals (first | exact rfl | exact ⟨rfl, hw'⟩))); go_simp; (try go_bits); refine hK _ ?_; clear hK K)
    refine flow_nil ?_
    intro w' hw'
    have hc_w' := (bcell hw').1; have hf_w' := (bcell hw').2; have hz_w' : _ ≤ w'.heap.size := hw'.size; (try simp only [World.size_alloc, World.heap_drewN, World.size_setCell, heap_drew] at hc_w' hf_w' hz_w'); have hz_w'_w_0 : w.heap.size < w'.heap.size := (by omega); have hz_w'_w_1 : w.heap.size + 1 < w'.heap.size := (by omega)
    go_wp2_with (first | (go_at_call 63; with_reducible refine (n1 _).mono ?_; rintro e wb ⟨rfl, hb_wb⟩; have hc_wb := (bcell hb_wb).1; have hf_wb := (bcell hb_wb).2; have hz_wb : _ ≤ wb.heap.size := hb_wb.size; (try simp only [World.size_alloc, World.heap_drewN, World.size_setCell, heap_drew] at hc_wb hf_wb hz_wb)) | (go_at_call 53; with_reducible refine (c1 _).mono ?_; rintro e wb ⟨rfl, hb_wb⟩; have hc_wb := (bcell hb_wb).1; have hf_wb := (bcell hb_wb).2; have hz_wb : _ ≤ wb.heap.size := hb_wb.size; (try simp only [World.size_alloc, World.heap_drewN, World.size_setCell, heap_drew] at hc_wb hf_wb hz_wb)))
    go_ret
    refine ⟨rfl, ?_⟩
    repeat (with_reducible first | exact Below.refl _ _ | assumption | refine below_drewN ?_ _ | refine Below.drew ?_ | refine below_setRow' ?_ (by first | omega | (simp; done) | (simp; omega)) _ | refine Below.setCell ?_ (by first | omega | (simp; done) | (simp; omega)) _ | refine Below.alloc ?_ (by first | omega | (simp; done) | (simp; omega)) _ | refine Below.trans ?_ (Below.mono (by assumption) (by first | omega | (simp; done) | (simp; omega))))
end Go.Proofs.Ytmegpggpndjjcaa
