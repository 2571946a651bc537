/-
  The contract of keccak.permute: all rounds, in place. Conditions: the three tables stand in their blocks.
-/
import Derived.Test.YtcdjdnbdblpofaaDoorKSpec
import Derived.Test.YtcdjdnbdblpofaaDoorKLeaf
import Derived.Laws.Cover3
namespace Go.Proofs.YtcdjdnbdblpofaaDoor
open Go.RowKit
attribute [local go_sem] leftBy
set_option linter.unusedSimpArgs false
set_option linter.unusedVariables false

/-- Block g holds the m numbers f, whatever its type. -/
def tabN (κ : IntKind) (m : Nat) (W : World) (g : Nat) (f : Nat → Nat) : Prop := ∃ t fr, W.heap[g]? = some (.cells (numA κ m f) t fr)
theorem tabN.cellAt {κ : IntKind} {m : Nat} {W : World} {g j : Nat} {f : Nat → Nat} (h : tabN κ m W g f) (hj : j < m) : W.cell? ⟨g, j, none⟩ = some (.int κ (f j : Nat)) := by
  obtain ⟨t, fr, h⟩ := h
  have : W.cell? ⟨g, j, none⟩ = (numA κ m f)[j]? := by simp [World.cell?, h]
  rw [this, numA_get hj]
theorem tabN.fr {κ : IntKind} {m : Nat} {W W' : World} {g : Nat} {f : Nat → Nat} {T : Nat → Prop} (h : tabN κ m W g f) (hb : Fr T W W') (hT : ¬ T g) : tabN κ m W' g f := by
  obtain ⟨t, fr, h⟩ := h
  exact ⟨t, fr, (hb.block g (Array.getElem?_eq_some_iff.1 h).1 hT).trans h⟩
theorem rowN.fr {κ : IntKind} {m : Nat} {t : TypeId} {W W' : World} {g : Nat} {f : Nat → Nat} {T : Nat → Prop} (h : rowN κ m t W g f) (hb : Fr T W W') (hT : ¬ T g) : rowN κ m t W' g f := (hb.block g h.lt hT).trans h

/-- The program's tables. -/
structure KT (W : World) : Prop where
  places : tabN .i64 24 W 0 placesF
  turns : tabN .i64 24 W 1 turnsF
  rc : tabN .u64 24 W 2 rcF
theorem KT.fr {W W' : World} {T : Nat → Prop} (h : KT W) (hb : Fr T W W') (hT : ∀ k, T k → 3 ≤ k) : KT W' :=
  ⟨h.places.fr hb (fun h => by have := hT _ h; omega), h.turns.fr hb (fun h => by have := hT _ h; omega), h.rc.fr hb (fun h => by have := hT _ h; omega)⟩
theorem KT.below {W W' : World} {B : Nat} (h : KT W) (hb : Below B W W') (hB : 3 ≤ B) : KT W' := by
  obtain ⟨⟨t1, f1, h1⟩, ⟨t2, f2, h2⟩, ⟨t3, f3, h3⟩⟩ := h
  exact ⟨⟨t1, f1, (hb.block _ (by omega)).trans h1⟩, ⟨t2, f2, (hb.block _ (by omega)).trans h2⟩, ⟨t3, f3, (hb.block _ (by omega)).trans h3⟩⟩


theorem Fr.below' {T : Nat → Prop} {A W W' : World} {B : Nat} (h : Fr T A W) (hb : Below B W W') (hB : B = W.heap.size) : Fr T A W' := h.below (hB ▸ hb)
/-- The load of a whole table. -/
theorem tabN.load {κ : IntKind} {m : Nat} {W : World} {g : Nat} {f : Nat → Nat} {ty e : TypeId} (h : tabN κ m W g f) (hu : Tryd.prog.underlying ty = some (.array m e)) (hi : (Tryd.prog.info? ty).map (·.size) = some m) : (Instr.loadAt ty (.pointer (some ⟨g, 0, none⟩))).run Tryd.prog W = .ok (.agg (numA κ m f)) W := by
  obtain ⟨t, fr, h⟩ := h
  simp only [Instr.loadAt, Instr.sureAddr, Sem.run_bind, Sem.run_pure, Result.andThen]
  exact run_loadVar_row W g _ _ _ _ _ h hu rfl (by rw [numA_size]; exact hi)
theorem info24 : (Tryd.prog.info? 128).map (·.size) = some 24 := by kernel_rfl
theorem under24 : Tryd.prog.underlying 128 = some (.array 24 3) := by kernel_rfl

theorem index24 (f : Nat → Nat) {m : Nat} (hm : m < 24) (W : World) : (Instr.index 128 (.agg (numA .i64 24 f)) (.int .i64 (m : Nat))).run Tryd.prog W = .ok (.int .i64 (f m : Nat)) W := by
  have hb : (m : Int) < 24 := by omega
  have hg := numA_get (κ := .i64) (f := f) hm
  unfold Instr.index
  simp only [Sem.run_bind, run_underlying under24, Result.andThen_ok]
  go_simp

theorem len25 : Tryd.prog.arrayLen 112 = 25 := by kernel_rfl
theorem elem25 : Tryd.prog.elem 112 = 23 := by kernel_rfl
theorem under25 : Tryd.prog.underlying 112 = some (.array (Tryd.prog.arrayLen 112) (Tryd.prog.elem 112)) := by kernel_rfl
/-- Five lanes of a row as a slice. -/
theorem slice_five (k y : Nat) (hy : y + 5 ≤ 25) (W : World) : (Instr.sliceAt 112 (.pointer (some ⟨k, 0, none⟩)) (some (.int .i64 (y : Nat))) (some (.int .i64 ((y : Int) + 5))) none).run Tryd.prog W = .ok (.slice (some ⟨k, y, none⟩) 5 (25 - y)) W := by
  rw [run_sliceAt_array_lh W _ _ under25 _ _ _ _ (by omega) (by omega) (by rw [len25]; omega), elem25, Tryd.sizeOf23, Result.andThen_ok, len25]
  unfold slicedAt
  rw [if_neg (by omega)]
  have h1 : ((y : Int)).toNat = y := by omega
  have h2 : ((y : Int) + 5).toNat = y + 5 := by omega
  rw [h1, h2, Nat.add_sub_cancel_left]
  unfold Addr.add
  split <;> simp_all

/-- The end of a round. -/
def endF (i : Nat) (g : Nat → Nat) : Nat → Nat := fun j => if j = 0 then chiF g 0 ^^^ rcF i else chiF g j
theorem endF_at (i : Nat) (g : Nat → Nat) (j : Nat) : (if j = 0 then chiF g 0 ^^^ rcF i else chiF g j) = endF i g j := rfl
theorem u64_notM {x : Nat} (h : x < M64) : bits .xor .u64 (if IntKind.u64.signed = true then -1 else IntKind.u64.max) (x : Int) = ((notl x : Nat) : Int) := u64_notN h
theorem rnd_end (i : Nat) (f : Nat → Nat) : rndF i f = endF i (rhoF (theF f)) := rfl

attribute [local irreducible] endF colP theF rhoF chiF rndF rnds rotl notl placesF turnsF rcF numA

theorem info5 : (Tryd.prog.info? 126).map (·.size) = some 5 := by kernel_rfl
theorem under5 : Tryd.prog.underlying 126 = some (.array 5 23) := by kernel_rfl

set_option maxRecDepth 100000 in
set_option maxHeartbeats 4000000 in
/-- permute. -/
theorem permute_any (k : Nat) (f : Nat → Nat) (hf : LL f) (w : World) (hk : 3 ≤ k) (hT : KT w) (hrow : rowN .u64 25 112 w k f) :
    Calls Tryd.prog 72 #[.pointer (some ⟨k, 0, none⟩)] w fun e w' => e = .returned (.tuple #[]) ∧ rowN .u64 25 112 w' k (rnds f 24) ∧ Fr (fun j => j = k) w w' := by
  have hkw := hrow.lt
  go_enter Tryd.func72, Tryd.ntmps72
  go_wp2
  go_loopw [13] (fun i wr => ∃ n : Nat, n ≤ 24 ∧ i = .int .i64 n ∧ rowN .u64 25 112 wr k (rnds f n) ∧ Fr (fun j => j = k) w wr)
    (fun i _ => 24 - (intOf i).toNat)
  case atStart => exact ⟨0, by omega, rfl, by rw [rnds_zero]; exact hrow, Fr.refl _ _⟩
  case round =>
    obtain ⟨n, hn, rfl, hr0, hfr0⟩ := hrel
    have hT0 := hT.fr hfr0 (fun j hj => by omega)
    by_cases h24 : n < 24
    · have hF := rnds_lt hf n
      have hnx := Lib.hid (rnds_succ f n)
      generalize rnds f n = F at *
      have hk0 := hr0.lt
      have h24i : (n : Int) < 24 := by omega
      go_wp2
      rw [← numA5]
      have hcw := hfr0.size
      generalize hc0 : wr.heap.size = c0 at hcw hk0 ⊢
      have hkc := Nat.ne_of_lt hk0
      replace hc0 := Lib.hid hc0
      go_loopw [17] (fun i w1 => ∃ n : Nat, n ≤ 25 ∧ i = .int .i64 n ∧ rowN .u64 5 126 w1 c0 (colN F n) ∧ rowN .u64 25 112 w1 k F ∧ Fr (fun j => j = k) w w1)
        (fun i _ => 25 - (intOf i).toNat)
      case atStart =>
        refine ⟨0, by omega, rfl, (rowN.new hc0.out.symm).to (colN_zero F), hr0.alloc _, ?_⟩
        repeat (with_reducible first | exact Fr.refl _ _ | assumption | refine Fr.drewN ?_ _ | refine Fr.drew ?_ | refine Fr.setCell ?_ (by first | (left; rfl) | (right; omega)) _ | refine Fr.setRow ?_ (by first | (left; rfl) | (right; omega)) _ | refine Fr.alloc ?_ _)
      case round =>
        obtain ⟨m, hm, rfl, hrc, hrk, hfr1⟩ := hrel
        by_cases h25 : m < 25
        · have h25i : (m : Int) < 25 := by omega
          have cc := hrc.cellAt (j := m % 5) (by omega)
          have ck := hrk.cellAt h25
          have fc := hrc.free
          have hx := u64_xorN (colN_lt hF m (m % 5)) (hF m)
          go_wp2
          first | refine wp_flow (fun k => ([1, 1, 1, 1, 1, 1] : List Nat).getD k 1) Dr _ (Dr.next _ _) (by kernel_rfl) (by kernel_rfl) ?_ | refine wp_flow (fun k => ([1, 1, 1, 1, 1, 1] : List Nat).getD k 1) Dr _ (Dr.one _) (by kernel_rfl) (by kernel_rfl) ?_
          (refine flow_quiet rfl rfl (fun K hK => ?_); apply Exists.intro; apply And.intro; (focus (rintro w' ⟨nn, rfl⟩; go_simp; (try go_bits); exact ⟨rfl, Dr.of _ _⟩)); go_simp; (try go_bits); refine hK _ ?_; clear hK K)
          (refine flow_quiet rfl rfl (fun K hK => ?_); apply Exists.intro; apply And.intro; (focus (rintro w' ⟨nn, rfl⟩; go_simp; (try go_bits); exact ⟨rfl, Dr.of _ _⟩)); go_simp; (try go_bits); refine hK _ ?_; clear hK K)
          (refine flow_quiet rfl rfl (fun K hK => ?_); apply Exists.intro; apply And.intro; (focus (rintro w' ⟨nn, rfl⟩; go_simp; (try go_bits); exact ⟨rfl, Dr.of _ _⟩)); go_simp; (try go_bits); refine hK _ ?_; clear hK K)
          (refine flow_quiet rfl rfl (fun K hK => ?_); apply Exists.intro; apply And.intro; (focus (rintro w' ⟨nn, rfl⟩; go_simp; (try go_bits); exact ⟨rfl, Dr.of _ _⟩)); go_simp; (try go_bits); refine hK _ ?_; clear hK K)
          (refine flow_quiet rfl rfl (fun K hK => ?_); apply Exists.intro; apply And.intro; (focus (rintro w' ⟨nn, rfl⟩; go_simp; (try go_bits); exact ⟨rfl, Dr.of _ _⟩)); go_simp; (try go_bits); refine hK _ ?_; clear hK K)
          (refine flow_quiet rfl rfl (fun K hK => ?_); apply Exists.intro; apply And.intro; (focus (rintro w' ⟨nn, rfl⟩; go_simp; (try go_bits); exact ⟨rfl, Dr.of _ _⟩)); go_simp; (try go_bits); refine hK _ ?_; clear hK K)
          refine flow_nil ?_
          rintro w' ⟨nq, rfl⟩
          go_wp2
          go_roundw
          case rel =>
            refine ⟨m + 1, by omega, by go_num, (hrc.drewN _).store.to (colN_succ F m), (hrk.drewN _).set (by omega), ?_⟩
            repeat (with_reducible first | exact Fr.refl _ _ | assumption | refine Fr.drewN ?_ _ | refine Fr.drew ?_ | refine Fr.setCell ?_ (by first | (left; rfl) | (right; omega)) _ | refine Fr.setRow ?_ (by first | (left; rfl) | (right; omega)) _ | refine Fr.alloc ?_ _)
          case measure => simp [intOf]; omega
        · have hmf : decide ((m : Int) < 25) = false := by simp; omega
          replace hrc := hrc.to (show ∀ x, x < 5 → colN F m x = colF F x by rw [show m = 25 by omega]; exact colN_all F)
          clear h25 hm
          go_wp2
          go_loopw [31] (fun i w1 => ∃ n : Nat, n ≤ 25 ∧ i = .int .i64 n ∧ rowN .u64 5 126 w1 c0 (colF F) ∧ rowN .u64 25 112 w1 k (theN F n) ∧ Fr (fun j => j = k) w w1)
            (fun i _ => 25 - (intOf i).toNat)
          case atStart => exact ⟨0, by omega, rfl, hrc, hrk.to fun j _ => theN_zero F j, hfr1⟩
          case round =>
            obtain ⟨m, hm, rfl, hrc, hrk, hfr1⟩ := hrel
            by_cases h25 : m < 25
            · have h25i : (m : Int) < 25 := by omega
              have hi1 : 0 ≤ ((m : Int) + 4) % 5 := by omega
              have hi2 : ((m : Int) + 4) % 5 < 5 := by omega
              have hi3 : (((m : Int) + 4) % 5).toNat = (m + 4) % 5 := by omega
              have hi4 : 0 ≤ ((m : Int) + 1) % 5 := by omega
              have hi5 : ((m : Int) + 1) % 5 < 5 := by omega
              have hi6 : (((m : Int) + 1) % 5).toNat = (m + 1) % 5 := by omega
              have c1 := hrc.cellAt (j := (m + 4) % 5) (by omega)
              have c2 := hrc.cellAt (j := (m + 1) % 5) (by omega)
              have ck := hrk.cellAt h25
              rw [theN_at] at ck
              have fk := hrk.free
              have cR : ∀ W, Calls Tryd.prog 82 #[.int .u64 (colF F ((m + 1) % 5) : Nat), .int .i64 1] W fun e w' => e = .returned (.int .u64 (rotl (colF F ((m + 1) % 5)) 1 : Nat)) ∧ Below W.heap.size W w' := fun W => rotate_any _ 1 (colF_lt hF _) (by decide) W
              have hx1 := u64_xorN (colF_lt hF ((m + 4) % 5)) (rotl_lt (s := 1) (colF_lt hF ((m + 1) % 5)))
              have hx2 : bits .xor .u64 ((F m : Nat) : Int) ((colF F ((m + 4) % 5) ^^^ rotl (colF F ((m + 1) % 5)) 1 : Nat) : Int) = ((theF F m : Nat) : Int) := by
                rw [u64_xorN (hF m) (xor_lt (colF_lt hF _) (rotl_lt (colF_lt hF _)))]
                unfold theF
                rfl
              have hkl := hrk.lt
              have hcl := hrc.lt
              go_wp2
              refine wp_flow (fun k => ([1, 1, 1, 1, 1, 1, 1, 1, 1, 1, 1, 1, 1, 1, 1, 1, 1, 1, 0, 1, 2] : List Nat).getD k 1) (Below (wr.heap.size)) _ (Below.drew (Below.refl _ _)) (by kernel_rfl) (by kernel_rfl) ?_
              (refine flow_quiet rfl rfl (fun K hK => ?_); apply Exists.intro; apply And.intro; (focus (intro w' hw'; have hc := (bcell hw').1; go_simp; (try go_bits); all_goals (first | exact rfl | exact ⟨rfl, hw'⟩))); go_simp; (try go_bits); refine hK _ ?_; clear hK K)
              (refine flow_quiet rfl rfl (fun K hK => ?_); apply Exists.intro; apply And.intro; (focus (intro w' hw'; have hc := (bcell hw').1; go_simp; (try go_bits); all_goals (first | exact rfl | exact ⟨rfl, hw'⟩))); go_simp; (try go_bits); refine hK _ ?_; clear hK K)
              (refine flow_quiet rfl rfl (fun K hK => ?_); apply Exists.intro; apply And.intro; (focus (intro w' hw'; have hc := (bcell hw').1; go_simp; (try go_bits); all_goals (first | exact rfl | exact ⟨rfl, hw'⟩))); go_simp; (try go_bits); refine hK _ ?_; clear hK K)
              (refine flow_quiet rfl rfl (fun K hK => ?_); apply Exists.intro; apply And.intro; (focus (intro w' hw'; have hc := (bcell hw').1; go_simp; (try go_bits); all_goals (first | exact rfl | exact ⟨rfl, hw'⟩))); go_simp; (try go_bits); refine hK _ ?_; clear hK K)
              (refine flow_quiet rfl rfl (fun K hK => ?_); apply Exists.intro; apply And.intro; (focus (intro w' hw'; have hc := (bcell hw').1; go_simp; (try go_bits); all_goals (first | exact rfl | exact ⟨rfl, hw'⟩))); go_simp; (try go_bits); refine hK _ ?_; clear hK K)
              (refine flow_quiet rfl rfl (fun K hK => ?_); apply Exists.intro; apply And.intro; (focus (intro w' hw'; have hc := (bcell hw').1; go_simp; (try go_bits); all_goals (first | exact rfl | exact ⟨rfl, hw'⟩))); go_simp; (try go_bits); refine hK _ ?_; clear hK K)
              (refine flow_quiet rfl rfl (fun K hK => ?_); apply Exists.intro; apply And.intro; (focus (intro w' hw'; have hc := (bcell hw').1; go_simp; (try go_bits); all_goals (first | exact rfl | exact ⟨rfl, hw'⟩))); go_simp; (try go_bits); refine hK _ ?_; clear hK K)
              (refine flow_quiet rfl rfl (fun K hK => ?_); apply Exists.intro; apply And.intro; (focus (intro w' hw'; have hc := (bcell hw').1; go_simp; (try go_bits); all_goals (first | exact rfl | exact ⟨rfl, hw'⟩))); go_simp; (try go_bits); refine hK _ ?_; clear hK K)
              (refine flow_quiet rfl rfl (fun K hK => ?_); apply Exists.intro; apply And.intro; (focus (intro w' hw'; have hc := (bcell hw').1; go_simp; (try go_bits); all_goals (first | exact rfl | exact ⟨rfl, hw'⟩))); go_simp; (try go_bits); refine hK _ ?_; clear hK K)
              (refine flow_quiet rfl rfl (fun K hK => ?_); apply Exists.intro; apply And.intro; (focus (intro w' hw'; have hc := (bcell hw').1; go_simp; (try go_bits); all_goals (first | exact rfl | exact ⟨rfl, hw'⟩))); go_simp; (try go_bits); refine hK _ ?_; clear hK K)
              (refine flow_quiet rfl rfl (fun K hK => ?_); apply Exists.intro; apply And.intro; (focus (intro w' hw'; have hc := (bcell hw').1; go_simp; (try go_bits); all_goals (first | exact rfl | exact ⟨rfl, hw'⟩))); go_simp; (try go_bits); refine hK _ ?_; clear hK K)
              (refine flow_quiet rfl rfl (fun K hK => ?_); apply Exists.intro; apply And.intro; (focus (intro w' hw'; have hc := (bcell hw').1; go_simp; (try go_bits); all_goals (first | exact rfl | exact ⟨rfl, hw'⟩))); go_simp; (try go_bits); refine hK _ ?_; clear hK K)
              (refine flow_quiet rfl rfl (fun K hK => ?_); apply Exists.intro; apply And.intro; (focus (intro w' hw'; have hc := (bcell hw').1; go_simp; (try go_bits); all_goals (first | exact rfl | exact ⟨rfl, hw'⟩))); go_simp; (try go_bits); refine hK _ ?_; clear hK K)
              (refine flow_quiet rfl rfl (fun K hK => ?_); apply Exists.intro; apply And.intro; (focus (intro w' hw'; have hc := (bcell hw').1; go_simp; (try go_bits); all_goals (first | exact rfl | exact ⟨rfl, hw'⟩))); go_simp; (try go_bits); refine hK _ ?_; clear hK K)
              (refine flow_quiet rfl rfl (fun K hK => ?_); apply Exists.intro; apply And.intro; (focus (intro w' hw'; have hc := (bcell hw').1; go_simp; (try go_bits); all_goals (first | exact rfl | exact ⟨rfl, hw'⟩))); go_simp; (try go_bits); refine hK _ ?_; clear hK K)
              first | (refine flow_quiet rfl rfl (fun K hK => ?_); apply Exists.intro; apply And.intro; (focus (intro w' hw'; have hc := (bcell hw').1; go_simp; (try go_bits); all_goals (go_at_call 82; with_reducible refine (cR _).mono ?_; rintro e w2 ⟨rfl, hb⟩; exact ⟨rfl, hw'.trans (hb.mono (below_le hw' (by simp)))⟩))); go_simp; (try go_bits); refine hK _ ?_; clear hK K) | (refine flow_quiet rfl rfl (fun K hK => ?_); apply Exists.intro; apply And.intro; (focus (intro w' hw'; have hc := (bcell hw').1; go_simp; (try go_bits); all_goals (go_at_call 82; refine (cR _).mono ?_; rintro e w2 ⟨rfl, hb⟩; exact ⟨rfl, hw'.trans (hb.mono (below_le hw' (by simp)))⟩))); go_simp; (try go_bits); refine hK _ ?_; clear hK K)
              (refine flow_quiet rfl rfl (fun K hK => ?_); apply Exists.intro; apply And.intro; (focus (intro w' hw'; have hc := (bcell hw').1; go_simp; (try go_bits); all_goals (first | exact rfl | exact ⟨rfl, hw'⟩))); go_simp; (try go_bits); refine hK _ ?_; clear hK K)
              (refine flow_quiet rfl rfl (fun K hK => ?_); apply Exists.intro; apply And.intro; (focus (intro w' hw'; have hc := (bcell hw').1; go_simp; (try go_bits); all_goals (first | exact rfl | exact ⟨rfl, hw'⟩))); go_simp; (try go_bits); refine hK _ ?_; clear hK K)
              (refine flow_late rfl rfl (fun K hK => ?_); apply Exists.intro; apply And.intro; (focus (intro w0 w' hlw; clear hlw; go_simp; (try go_bits); exact rfl)); go_simp; (try go_bits); refine hK _ ?_; clear hK K)
              (refine flow_quiet rfl rfl (fun K hK => ?_); apply Exists.intro; apply And.intro; (focus (intro w' hw'; have hc := (bcell hw').1; go_simp; (try go_bits); all_goals (first | exact rfl | exact ⟨rfl, hw'⟩))); go_simp; (try go_bits); refine hK _ ?_; clear hK K)
              (refine flow_eff rfl rfl (fun K hK => ?_); apply Exists.intro; apply Exists.intro; apply And.intro; (focus (intro w' hw'; have hc := (bcell hw').1; have hf := (bcell hw').2; go_simp; (try go_bits); refine ⟨rfl, ?_⟩; (repeat apply below_store); exact hw')); go_simp; (try go_bits); refine hK _ _ ?_; clear hK K)
              refine flow_nil ?_
              intro w' hw'
              go_wp2
              go_roundw
              case rel =>
                refine ⟨m + 1, by omega, by go_num, (hrc.set (by omega)).below hw' (by omega), (hrk.store.to fun j _ => theN_succ F m j).below hw' (by omega), (hfr1.setCell (Or.inl rfl) _).below' hw' (by simp)⟩
              case measure => simp [intOf]; omega
            · have hmf : decide ((m : Int) < 25) = false := by simp; omega
              replace hrk := hrk.to (show ∀ x, x < 25 → theN F m x = theF F x by rw [show m = 25 by omega]; exact theN_all F)
              clear h25 hm
              have hF2 := theF_lt hF
              have hnx2 := Lib.hid (show rnds f (n + 1) = endF n (rhoF (theF F)) from hnx.out.trans (rnd_end n F))
              generalize theF F = G at *
              have ck := hrk.cellAt (j := 1) (by omega)
              have hT1 := hT.fr hfr1 (fun j hj => by omega)
              obtain ⟨t0, f0, hg0⟩ := hT1.places
              have hs0 : (Tryd.prog.info? 128).map (·.size) = some (numA .i64 24 placesF).size := by rw [numA_size]; exact info24
              go_wp2_with (with_reducible refine wpList_load_row rfl 128 (.global 0) rfl _ rfl _ _ _ _ hg0 under24 rfl hs0 ?_)
              go_loopw [60, 7] (fun i v w1 => ∃ n : Nat, n ≤ 24 ∧ i = .int .i64 n ∧ v = .int .u64 (rhoV G n : Nat) ∧ rowN .u64 25 112 w1 k (rhoN G n) ∧ Fr (fun j => j = k) w w1)
                (fun i _ _ => 24 - (intOf i).toNat)
              case atStart => exact ⟨0, by omega, rfl, rfl, hrk.to fun j _ => rhoN_zero G j, hfr1⟩
              case round =>
                obtain ⟨m, hm, rfl, rfl, hrk, hfr1⟩ := hrel
                by_cases h24 : m < 24
                · have h24j : (m : Int) < 24 := by omega
                  have hix := fun W => index24 placesF h24 W
                  have hT1 := hT.fr hfr1 (fun j hj => by omega)
                  have ct := hT1.turns.cellAt h24
                  have hpl := places_lt m h24
                  have hpi : (placesF m : Int) < 25 := by omega
                  have ck := hrk.cellAt hpl
                  rw [rhoN_at h24] at ck
                  have fk := hrk.free
                  have hkl := hrk.lt
                  have h1w : 1 < wr.heap.size := by omega
                  have cR : ∀ W, Calls Tryd.prog 82 #[.int .u64 (rhoV G m : Nat), .int .i64 (turnsF m : Nat)] W fun e w' => e = .returned (.int .u64 (rhoF G (placesF m) : Nat)) ∧ Below W.heap.size W w' := fun W => by
                    rw [← rhoV_next h24]
                    exact rotate_any _ _ (rhoV_lt hF2 m) (turns_lt m h24) W
                  have hsu := rhoN_succ (f := G) h24
                  generalize placesF m = p at *
                  go_wp2
                  refine wp_flow (fun k => ([1, 1, 1, 1, 1, 1, 1, 1, 1, 1, 1, 1, 1, 0, 1, 2] : List Nat).getD k 1) (Below (wr.heap.size)) _ (Below.drew (Below.refl _ _)) (by kernel_rfl) (by kernel_rfl) ?_
                  (refine flow_quiet rfl rfl (fun K hK => ?_); apply Exists.intro; apply And.intro; (focus (intro w' hw'; have hc := (bcell hw').1; go_simp; (try go_bits); all_goals (first | exact rfl | exact ⟨rfl, hw'⟩))); go_simp; (try go_bits); refine hK _ ?_; clear hK K)
                  (refine flow_quiet rfl rfl (fun K hK => ?_); apply Exists.intro; apply And.intro; (focus (intro w' hw'; have hc := (bcell hw').1; go_simp; (try go_bits); all_goals (first | exact rfl | exact ⟨rfl, hw'⟩))); go_simp; (try go_bits); refine hK _ ?_; clear hK K)
                  (refine flow_quiet rfl rfl (fun K hK => ?_); apply Exists.intro; apply And.intro; (focus (intro w' hw'; have hc := (bcell hw').1; go_simp; (try go_bits); all_goals (first | exact rfl | exact ⟨rfl, hw'⟩))); go_simp; (try go_bits); refine hK _ ?_; clear hK K)
                  (refine flow_quiet rfl rfl (fun K hK => ?_); apply Exists.intro; apply And.intro; (focus (intro w' hw'; have hc := (bcell hw').1; go_simp; (try go_bits); all_goals (first | exact rfl | exact ⟨rfl, hw'⟩))); go_simp; (try go_bits); refine hK _ ?_; clear hK K)
                  (refine flow_quiet rfl rfl (fun K hK => ?_); apply Exists.intro; apply And.intro; (focus (intro w' hw'; have hc := (bcell hw').1; go_simp; (try go_bits); all_goals (first | exact rfl | exact ⟨rfl, hw'⟩))); go_simp; (try go_bits); refine hK _ ?_; clear hK K)
                  (refine flow_quiet rfl rfl (fun K hK => ?_); apply Exists.intro; apply And.intro; (focus (intro w' hw'; have hc := (bcell hw').1; go_simp; (try go_bits); all_goals (first | exact rfl | exact ⟨rfl, hw'⟩))); go_simp; (try go_bits); refine hK _ ?_; clear hK K)
                  (refine flow_quiet rfl rfl (fun K hK => ?_); apply Exists.intro; apply And.intro; (focus (intro w' hw'; have hc := (bcell hw').1; go_simp; (try go_bits); all_goals (first | exact rfl | exact ⟨rfl, hw'⟩))); go_simp; (try go_bits); refine hK _ ?_; clear hK K)
                  (refine flow_quiet rfl rfl (fun K hK => ?_); apply Exists.intro; apply And.intro; (focus (intro w' hw'; have hc := (bcell hw').1; go_simp; (try go_bits); all_goals (first | exact rfl | exact ⟨rfl, hw'⟩))); go_simp; (try go_bits); refine hK _ ?_; clear hK K)
                  (refine flow_quiet rfl rfl (fun K hK => ?_); apply Exists.intro; apply And.intro; (focus (intro w' hw'; have hc := (bcell hw').1; go_simp; (try go_bits); all_goals (first | exact rfl | exact ⟨rfl, hw'⟩))); go_simp; (try go_bits); refine hK _ ?_; clear hK K)
                  (refine flow_quiet rfl rfl (fun K hK => ?_); apply Exists.intro; apply And.intro; (focus (intro w' hw'; have hc := (bcell hw').1; go_simp; (try go_bits); all_goals (first | exact rfl | exact ⟨rfl, hw'⟩))); go_simp; (try go_bits); refine hK _ ?_; clear hK K)
                  (refine flow_quiet rfl rfl (fun K hK => ?_); apply Exists.intro; apply And.intro; (focus (intro w' hw'; have hc := (bcell hw').1; go_simp; (try go_bits); all_goals (first | exact rfl | exact ⟨rfl, hw'⟩))); go_simp; (try go_bits); refine hK _ ?_; clear hK K)
                  first | (refine flow_quiet rfl rfl (fun K hK => ?_); apply Exists.intro; apply And.intro; (focus (intro w' hw'; have hc := (bcell hw').1; go_simp; (try go_bits); all_goals (go_at_call 82; with_reducible refine (cR _).mono ?_; rintro e w2 ⟨rfl, hb⟩; exact ⟨rfl, hw'.trans (hb.mono (below_le hw' (by simp)))⟩))); go_simp; (try go_bits); refine hK _ ?_; clear hK K) | (refine flow_quiet rfl rfl (fun K hK => ?_); apply Exists.intro; apply And.intro; (focus (intro w' hw'; have hc := (bcell hw').1; go_simp; (try go_bits); all_goals (go_at_call 82; refine (cR _).mono ?_; rintro e w2 ⟨rfl, hb⟩; exact ⟨rfl, hw'.trans (hb.mono (below_le hw' (by simp)))⟩))); go_simp; (try go_bits); refine hK _ ?_; clear hK K)
                  (refine flow_quiet rfl rfl (fun K hK => ?_); apply Exists.intro; apply And.intro; (focus (intro w' hw'; have hc := (bcell hw').1; go_simp; (try go_bits); all_goals (first | exact rfl | exact ⟨rfl, hw'⟩))); go_simp; (try go_bits); refine hK _ ?_; clear hK K)
                  (refine flow_late rfl rfl (fun K hK => ?_); apply Exists.intro; apply And.intro; (focus (intro w0 w' hlw; clear hlw; go_simp; (try go_bits); exact rfl)); go_simp; (try go_bits); refine hK _ ?_; clear hK K)
                  (refine flow_quiet rfl rfl (fun K hK => ?_); apply Exists.intro; apply And.intro; (focus (intro w' hw'; have hc := (bcell hw').1; go_simp; (try go_bits); all_goals (first | exact rfl | exact ⟨rfl, hw'⟩))); go_simp; (try go_bits); refine hK _ ?_; clear hK K)
                  (refine flow_eff rfl rfl (fun K hK => ?_); apply Exists.intro; apply Exists.intro; apply And.intro; (focus (intro w' hw'; have hc := (bcell hw').1; have hf := (bcell hw').2; go_simp; (try go_bits); refine ⟨rfl, ?_⟩; (repeat apply below_store); exact hw')); go_simp; (try go_bits); refine hK _ _ ?_; clear hK K)
                  refine flow_nil ?_
                  intro w' hw'
                  go_wp2
                  go_roundw
                  case rel => exact ⟨m + 1, by omega, by go_num, rfl, (hrk.store.to hsu).below hw' (by omega), (hfr1.setCell (Or.inl rfl) _).below' hw' (by simp)⟩
                  case measure => simp [intOf]; omega
                · have hmf : decide ((m : Int) < 24) = false := by simp; omega
                  replace hrk := hrk.to (show ∀ x, x < 25 → rhoN G m x = rhoF G x by rw [show m = 24 by omega]; exact rhoN_all hF2)
                  clear h24 hm
                  have hF3 := rhoF_lt hF2
                  generalize rhoF G = H at *
                  go_wp2
                  go_loopw [10] (fun i w1 => ∃ q : Nat, q ≤ 5 ∧ i = .int .i64 ((5 * q : Nat) : Int) ∧ rowN .u64 25 112 w1 k (chiN H (5 * q)) ∧ Fr (fun j => j = k) w w1)
                    (fun i _ => 25 - (intOf i).toNat)
                  case atStart => exact ⟨0, by omega, rfl, hrk.to fun j _ => chiN_zero H j, hfr1⟩
                  case round =>
                    obtain ⟨q, hq, rfl, hrk, hfr1⟩ := hrel
                    by_cases h5 : q < 5
                    · obtain ⟨y, hy⟩ : ∃ y, y = 5 * q := ⟨_, rfl⟩
                      rw [← hy] at hrk ⊢
                      have hy25 : (y : Int) < 25 := by omega
                      have hy20 : (y : Int) + 5 ≤ 25 := by omega
                      have e0 := hrk.cellAt (j := y) (by omega)
                      have e1 := hrk.cellAt (j := y + 1) (by omega)
                      have e2 := hrk.cellAt (j := y + 2) (by omega)
                      have e3 := hrk.cellAt (j := y + 3) (by omega)
                      have e4 := hrk.cellAt (j := y + 4) (by omega)
                      simp only [chiN_at (Nat.le_refl y), chiN_at (show y ≤ y + 1 by omega), chiN_at (show y ≤ y + 2 by omega), chiN_at (show y ≤ y + 3 by omega), chiN_at (show y ≤ y + 4 by omega)] at e0 e1 e2 e3 e4
                      have hsl := fun W => slice_five k y (by omega) W
                      have har := fun W => run_arrayAt (P := Tryd.prog) (w := W) 126 23 5 (some ⟨k, y, none⟩) 5 (25 - y) under5 (Nat.le_refl _)
                      have hkl := hrk.lt
                      have hrw := hfr1.size
                      replace hy := Lib.hid hy
                      go_wp2
                      generalize hr0 : wr.heap.size = r0 at hkl hrw ⊢
                      replace hr0 := Lib.hid hr0
                      have hkr := Nat.ne_of_lt hkl
                      go_loopw [91] (fun i w1 => ∃ x : Nat, x ≤ 5 ∧ i = .int .i64 x ∧ rowN .u64 25 112 w1 k (chiN H (y + x)) ∧ rowN .u64 5 126 w1 r0 (fun x => H (y + x)) ∧ Fr (fun j => j = k) w w1)
                        (fun i _ => 5 - (intOf i).toNat)
                      case atStart =>
                        refine ⟨0, by omega, rfl, ?_, ?_, ?_⟩
                        · exact hrk.alloc _
                        · unfold rowN
                          rw [numA5_lit]
                          exact heap_new hr0.out.symm
                        · skip
                          repeat (with_reducible first | exact Fr.refl _ _ | assumption | refine Fr.drewN ?_ _ | refine Fr.drew ?_ | refine Fr.setCell ?_ (by first | (left; rfl) | (right; omega)) _ | refine Fr.setRow ?_ (by first | (left; rfl) | (right; omega)) _ | refine Fr.alloc ?_ _)
                      case round =>
                        obtain ⟨x, hx, rfl, hrk, hrr, hfr1⟩ := hrel
                        by_cases h5 : x < 5
                        · have h5i : (x : Int) < 5 := by omega
                          have hi1 : 0 ≤ ((x : Int) + 1) % 5 := by omega
                          have hi2 : ((x : Int) + 1) % 5 < 5 := by omega
                          have hi3 : (((x : Int) + 1) % 5).toNat = (x + 1) % 5 := by omega
                          have hi4 : 0 ≤ ((x : Int) + 2) % 5 := by omega
                          have hi5 : ((x : Int) + 2) % 5 < 5 := by omega
                          have hi6 : (((x : Int) + 2) % 5).toNat = (x + 2) % 5 := by omega
                          have hi7 : 0 ≤ (y : Int) + (x : Int) := by omega
                          have hi8 : (y : Int) + (x : Int) < 25 := by omega
                          have hi9 : ((y : Int) + (x : Int)).toNat = y + x := by omega
                          have c0 := hrr.cellAt h5
                          have c1 := hrr.cellAt (j := (x + 1) % 5) (by omega)
                          have c2 := hrr.cellAt (j := (x + 2) % 5) (by omega)
                          have fk := hrk.free
                          have hn := u64_notM (hF3 (y + (x + 1) % 5))
                          have ck := hrk.cellAt (j := y + x) (by omega)
                          have ha := u64_andN (b := H (y + (x + 2) % 5)) (notl_lt (hF3 (y + (x + 1) % 5))) (hF3 _)
                          have hx1 : bits .xor .u64 ((H (y + x) : Nat) : Int) ((notl (H (y + (x + 1) % 5)) &&& H (y + (x + 2) % 5) : Nat) : Int) = ((chiF H (y + x) : Nat) : Int) := by
                            rw [u64_xorN (hF3 _) (and_lt (notl_lt (hF3 _)))]
                            unfold chiF
                            rw [show (y + x) / 5 * 5 = y by have := hy.out; omega, show (y + x) % 5 = x by have := hy.out; omega]
                          go_wp2
                          first | refine wp_flow (fun k => ([1, 1, 1, 1, 1, 1, 1, 1, 1, 1, 1, 1, 1, 1, 1, 1, 1, 1, 1, 1, 0, 1, 2] : List Nat).getD k 1) Dr _ (Dr.next _ _) (by kernel_rfl) (by kernel_rfl) ?_ | refine wp_flow (fun k => ([1, 1, 1, 1, 1, 1, 1, 1, 1, 1, 1, 1, 1, 1, 1, 1, 1, 1, 1, 1, 0, 1, 2] : List Nat).getD k 1) Dr _ (Dr.one _) (by kernel_rfl) (by kernel_rfl) ?_
                          (refine flow_quiet rfl rfl (fun K hK => ?_); apply Exists.intro; apply And.intro; (focus (rintro w' ⟨nn, rfl⟩; go_simp; (try go_bits); exact ⟨rfl, Dr.of _ _⟩)); go_simp; (try go_bits); refine hK _ ?_; clear hK K)
                          (refine flow_quiet rfl rfl (fun K hK => ?_); apply Exists.intro; apply And.intro; (focus (rintro w' ⟨nn, rfl⟩; go_simp; (try go_bits); exact ⟨rfl, Dr.of _ _⟩)); go_simp; (try go_bits); refine hK _ ?_; clear hK K)
                          (refine flow_quiet rfl rfl (fun K hK => ?_); apply Exists.intro; apply And.intro; (focus (rintro w' ⟨nn, rfl⟩; go_simp; (try go_bits); exact ⟨rfl, Dr.of _ _⟩)); go_simp; (try go_bits); refine hK _ ?_; clear hK K)
                          (refine flow_quiet rfl rfl (fun K hK => ?_); apply Exists.intro; apply And.intro; (focus (rintro w' ⟨nn, rfl⟩; go_simp; (try go_bits); exact ⟨rfl, Dr.of _ _⟩)); go_simp; (try go_bits); refine hK _ ?_; clear hK K)
                          (refine flow_quiet rfl rfl (fun K hK => ?_); apply Exists.intro; apply And.intro; (focus (rintro w' ⟨nn, rfl⟩; go_simp; (try go_bits); exact ⟨rfl, Dr.of _ _⟩)); go_simp; (try go_bits); refine hK _ ?_; clear hK K)
                          (refine flow_quiet rfl rfl (fun K hK => ?_); apply Exists.intro; apply And.intro; (focus (rintro w' ⟨nn, rfl⟩; go_simp; (try go_bits); exact ⟨rfl, Dr.of _ _⟩)); go_simp; (try go_bits); refine hK _ ?_; clear hK K)
                          (refine flow_quiet rfl rfl (fun K hK => ?_); apply Exists.intro; apply And.intro; (focus (rintro w' ⟨nn, rfl⟩; go_simp; (try go_bits); exact ⟨rfl, Dr.of _ _⟩)); go_simp; (try go_bits); refine hK _ ?_; clear hK K)
                          (refine flow_quiet rfl rfl (fun K hK => ?_); apply Exists.intro; apply And.intro; (focus (rintro w' ⟨nn, rfl⟩; go_simp; (try go_bits); exact ⟨rfl, Dr.of _ _⟩)); go_simp; (try go_bits); refine hK _ ?_; clear hK K)
                          (refine flow_quiet rfl rfl (fun K hK => ?_); apply Exists.intro; apply And.intro; (focus (rintro w' ⟨nn, rfl⟩; go_simp; (try go_bits); exact ⟨rfl, Dr.of _ _⟩)); go_simp; (try go_bits); refine hK _ ?_; clear hK K)
                          (refine flow_quiet rfl rfl (fun K hK => ?_); apply Exists.intro; apply And.intro; (focus (rintro w' ⟨nn, rfl⟩; go_simp; (try go_bits); exact ⟨rfl, Dr.of _ _⟩)); go_simp; (try go_bits); refine hK _ ?_; clear hK K)
                          (refine flow_quiet rfl rfl (fun K hK => ?_); apply Exists.intro; apply And.intro; (focus (rintro w' ⟨nn, rfl⟩; go_simp; (try go_bits); exact ⟨rfl, Dr.of _ _⟩)); go_simp; (try go_bits); refine hK _ ?_; clear hK K)
                          (refine flow_quiet rfl rfl (fun K hK => ?_); apply Exists.intro; apply And.intro; (focus (rintro w' ⟨nn, rfl⟩; go_simp; (try go_bits); exact ⟨rfl, Dr.of _ _⟩)); go_simp; (try go_bits); refine hK _ ?_; clear hK K)
                          (refine flow_quiet rfl rfl (fun K hK => ?_); apply Exists.intro; apply And.intro; (focus (rintro w' ⟨nn, rfl⟩; go_simp; (try go_bits); exact ⟨rfl, Dr.of _ _⟩)); go_simp; (try go_bits); refine hK _ ?_; clear hK K)
                          (refine flow_quiet rfl rfl (fun K hK => ?_); apply Exists.intro; apply And.intro; (focus (rintro w' ⟨nn, rfl⟩; go_simp; (try go_bits); exact ⟨rfl, Dr.of _ _⟩)); go_simp; (try go_bits); refine hK _ ?_; clear hK K)
                          (refine flow_quiet rfl rfl (fun K hK => ?_); apply Exists.intro; apply And.intro; (focus (rintro w' ⟨nn, rfl⟩; go_simp; (try go_bits); exact ⟨rfl, Dr.of _ _⟩)); go_simp; (try go_bits); refine hK _ ?_; clear hK K)
                          (refine flow_quiet rfl rfl (fun K hK => ?_); apply Exists.intro; apply And.intro; (focus (rintro w' ⟨nn, rfl⟩; go_simp; (try go_bits); exact ⟨rfl, Dr.of _ _⟩)); go_simp; (try go_bits); refine hK _ ?_; clear hK K)
                          (refine flow_quiet rfl rfl (fun K hK => ?_); apply Exists.intro; apply And.intro; (focus (rintro w' ⟨nn, rfl⟩; go_simp; (try go_bits); exact ⟨rfl, Dr.of _ _⟩)); go_simp; (try go_bits); refine hK _ ?_; clear hK K)
                          (refine flow_quiet rfl rfl (fun K hK => ?_); apply Exists.intro; apply And.intro; (focus (rintro w' ⟨nn, rfl⟩; go_simp; (try go_bits); exact ⟨rfl, Dr.of _ _⟩)); go_simp; (try go_bits); refine hK _ ?_; clear hK K)
                          (refine flow_quiet rfl rfl (fun K hK => ?_); apply Exists.intro; apply And.intro; (focus (rintro w' ⟨nn, rfl⟩; go_simp; (try go_bits); exact ⟨rfl, Dr.of _ _⟩)); go_simp; (try go_bits); refine hK _ ?_; clear hK K)
                          (refine flow_quiet rfl rfl (fun K hK => ?_); apply Exists.intro; apply And.intro; (focus (rintro w' ⟨nn, rfl⟩; go_simp; (try go_bits); exact ⟨rfl, Dr.of _ _⟩)); go_simp; (try go_bits); refine hK _ ?_; clear hK K)
                          (refine flow_late rfl rfl (fun K hK => ?_); apply Exists.intro; apply And.intro; (focus (intro w0 w' hlw; clear hlw; go_simp; (try go_bits); exact rfl)); go_simp; (try go_bits); refine hK _ ?_; clear hK K)
                          (refine flow_quiet rfl rfl (fun K hK => ?_); apply Exists.intro; apply And.intro; (focus (rintro w' ⟨nn, rfl⟩; go_simp; (try go_bits); exact ⟨rfl, Dr.of _ _⟩)); go_simp; (try go_bits); refine hK _ ?_; clear hK K)
                          (refine flow_eff rfl rfl (fun K hK => ?_); apply Exists.intro; apply Exists.intro; apply And.intro; (focus (rintro w' ⟨nn, rfl⟩; go_simp; (try go_bits); refine ⟨rfl, ?_⟩; with_reducible first | exact Dr.store _ _ _ _ | exact Dr.store4 _ _ _ _ _ _ _ _ _ _)); go_simp; (try go_bits); refine hK _ _ ?_; clear hK K)
                          refine flow_nil ?_
                          rintro w' ⟨nq, rfl⟩
                          go_wp2
                          go_roundw
                          case rel =>
                            refine ⟨x + 1, by omega, by go_num, (hrk.drewN _).store.to fun j _ => chiN_succ H (y + x) j, (hrr.drewN _).set (by omega), ?_⟩
                            repeat (with_reducible first | exact Fr.refl _ _ | assumption | refine Fr.drewN ?_ _ | refine Fr.drew ?_ | refine Fr.setCell ?_ (by first | (left; rfl) | (right; omega)) _ | refine Fr.setRow ?_ (by first | (left; rfl) | (right; omega)) _ | refine Fr.alloc ?_ _)
                          case measure => simp [intOf]; omega
                        · have hmf : decide ((x : Int) < 5) = false := by simp; omega
                          obtain rfl : x = 5 := by omega
                          go_wp2
                          go_roundw
                          case rel =>
                            refine ⟨q + 1, by omega, by have := hy.out; go_num, ?_, hfr1⟩
                            have : y + 5 = 5 * (q + 1) := by have := hy.out; omega
                            rw [← this]
                            exact hrk
                          case measure => simp [intOf]; omega
                    · have hmf : decide (5 * (q : Int) < 25) = false := by simp; omega
                      replace hrk := hrk.to (show ∀ x, x < 25 → chiN H (5 * q) x = chiF H x by rw [show 5 * q = 25 by omega]; exact chiN_all H)
                      clear h5 hq
                      have hT1 := hT.fr hfr1 (fun j hj => by omega)
                      have ct := hT1.rc.cellAt h24
                      have ck := hrk.cellAt (j := 0) (by omega)
                      have fk := hrk.free
                      have hx1 := u64_xorN (chiF_lt hF3 0) (rc_lt n h24)
                      go_wp2
                      first | refine wp_flow (fun k => ([1, 1, 1, 1, 1, 1, 1, 1, 0, 1, 2] : List Nat).getD k 1) Dr _ (Dr.next _ _) (by kernel_rfl) (by kernel_rfl) ?_ | refine wp_flow (fun k => ([1, 1, 1, 1, 1, 1, 1, 1, 0, 1, 2] : List Nat).getD k 1) Dr _ (Dr.one _) (by kernel_rfl) (by kernel_rfl) ?_
                      (refine flow_quiet rfl rfl (fun K hK => ?_); apply Exists.intro; apply And.intro; (focus (rintro w' ⟨nn, rfl⟩; go_simp; (try go_bits); exact ⟨rfl, Dr.of _ _⟩)); go_simp; (try go_bits); refine hK _ ?_; clear hK K)
                      (refine flow_quiet rfl rfl (fun K hK => ?_); apply Exists.intro; apply And.intro; (focus (rintro w' ⟨nn, rfl⟩; go_simp; (try go_bits); exact ⟨rfl, Dr.of _ _⟩)); go_simp; (try go_bits); refine hK _ ?_; clear hK K)
                      (refine flow_quiet rfl rfl (fun K hK => ?_); apply Exists.intro; apply And.intro; (focus (rintro w' ⟨nn, rfl⟩; go_simp; (try go_bits); exact ⟨rfl, Dr.of _ _⟩)); go_simp; (try go_bits); refine hK _ ?_; clear hK K)
                      (refine flow_quiet rfl rfl (fun K hK => ?_); apply Exists.intro; apply And.intro; (focus (rintro w' ⟨nn, rfl⟩; go_simp; (try go_bits); exact ⟨rfl, Dr.of _ _⟩)); go_simp; (try go_bits); refine hK _ ?_; clear hK K)
                      (refine flow_quiet rfl rfl (fun K hK => ?_); apply Exists.intro; apply And.intro; (focus (rintro w' ⟨nn, rfl⟩; go_simp; (try go_bits); exact ⟨rfl, Dr.of _ _⟩)); go_simp; (try go_bits); refine hK _ ?_; clear hK K)
                      (refine flow_quiet rfl rfl (fun K hK => ?_); apply Exists.intro; apply And.intro; (focus (rintro w' ⟨nn, rfl⟩; go_simp; (try go_bits); exact ⟨rfl, Dr.of _ _⟩)); go_simp; (try go_bits); refine hK _ ?_; clear hK K)
                      (refine flow_quiet rfl rfl (fun K hK => ?_); apply Exists.intro; apply And.intro; (focus (rintro w' ⟨nn, rfl⟩; go_simp; (try go_bits); exact ⟨rfl, Dr.of _ _⟩)); go_simp; (try go_bits); refine hK _ ?_; clear hK K)
                      (refine flow_quiet rfl rfl (fun K hK => ?_); apply Exists.intro; apply And.intro; (focus (rintro w' ⟨nn, rfl⟩; go_simp; (try go_bits); exact ⟨rfl, Dr.of _ _⟩)); go_simp; (try go_bits); refine hK _ ?_; clear hK K)
                      (refine flow_late rfl rfl (fun K hK => ?_); apply Exists.intro; apply And.intro; (focus (intro w0 w' hlw; clear hlw; go_simp; (try go_bits); exact rfl)); go_simp; (try go_bits); refine hK _ ?_; clear hK K)
                      (refine flow_quiet rfl rfl (fun K hK => ?_); apply Exists.intro; apply And.intro; (focus (rintro w' ⟨nn, rfl⟩; go_simp; (try go_bits); exact ⟨rfl, Dr.of _ _⟩)); go_simp; (try go_bits); refine hK _ ?_; clear hK K)
                      (refine flow_eff rfl rfl (fun K hK => ?_); apply Exists.intro; apply Exists.intro; apply And.intro; (focus (rintro w' ⟨nn, rfl⟩; go_simp; (try go_bits); refine ⟨rfl, ?_⟩; with_reducible first | exact Dr.store _ _ _ _ | exact Dr.store4 _ _ _ _ _ _ _ _ _ _)); go_simp; (try go_bits); refine hK _ _ ?_; clear hK K)
                      refine flow_nil ?_
                      rintro w' ⟨nq, rfl⟩
                      go_wp2
                      go_roundw
                      case rel =>
                        refine ⟨n + 1, by omega, by go_num, ?_, ?_⟩
                        · rw [hnx2.out]
                          exact (hrk.store.to fun j _ => endF_at n H j).drewN _
                        · skip
                          repeat (with_reducible first | exact Fr.refl _ _ | assumption | refine Fr.drewN ?_ _ | refine Fr.drew ?_ | refine Fr.setCell ?_ (by first | (left; rfl) | (right; omega)) _ | refine Fr.setRow ?_ (by first | (left; rfl) | (right; omega)) _ | refine Fr.alloc ?_ _)
                      case measure => simp [intOf]; omega
    · obtain rfl : n = 24 := by omega
      go_wp2
      refine bodyPost_end (by simp only [results, Tryd.results72]; go_simp; try rfl) rfl ⟨rfl, hr0, hfr0⟩
end Go.Proofs.YtcdjdnbdblpofaaDoor
