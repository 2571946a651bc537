/-
  Texts of one proof, one behind the other. Conditions: each text's own line says them.
-/
import Derived.Test.YtcdjdnbdblpofaaDoorPL10
import Derived.Test.YtcdjdnbdblpofaaDoorPL8
import Derived.Lib.Hide

/- The contract of the document's round of Keccak. Conditions: none. -/
namespace Go.Proofs.YtcdjdnbdblpofaaDoor
open Go.RowKit
attribute [local go_sem] leftBy
set_option linter.unusedSimpArgs false
set_option linter.unusedVariables false


/-- The columns' sums so far. -/
def colG (f : Nat → Nat) (x y : Nat) : Nat → Nat := fun j => if j < x then colF f j else if j = x then colP f x y else 0
theorem colG_zero (f : Nat → Nat) (j : Nat) : 0 = colG f 0 0 j := by
  unfold colG
  rw [if_neg (by omega)]
  split
  · rw [colP_zero]
  · rfl
theorem colG_at (f : Nat → Nat) (x y : Nat) : colG f x y x = colP f x y := by unfold colG; rw [if_neg (by omega), if_pos rfl]
theorem colG_succ (f : Nat → Nat) (x y j : Nat) : (if j = x then colP f x y ^^^ f (x + 5 * y) else colG f x y j) = colG f x (y + 1) j := by
  unfold colG
  by_cases h : j = x
  · subst h
    rw [if_pos rfl, if_neg (by omega), if_pos rfl, colP_succ]
  · rw [if_neg h, if_neg h, if_neg h]
theorem colG_next (f : Nat → Nat) (x j : Nat) : colG f x 5 j = colG f (x + 1) 0 j := by
  unfold colG
  by_cases h1 : j < x
  · rw [if_pos h1, if_pos (by omega)]
  · by_cases h2 : j = x
    · subst h2
      rw [if_neg (by omega), if_pos rfl, if_pos (by omega)]
      rfl
    · rw [if_neg h1, if_neg h2, if_neg (by omega)]
      split
      · rw [colP_zero]
      · rfl
theorem colG_all (f : Nat → Nat) (y : Nat) : ∀ j, j < 5 → colG f 5 y j = colF f j := fun j hj => by unfold colG; rw [if_pos hj]

/-- The moved lanes so far, in the document's order. -/
def ordF (j : Nat) : Nat := 5 * ((3 * (j / 5) + j % 5) % 5) + j % 5
def rhoG (f : Nat → Nat) (n : Nat) : Nat → Nat := fun j => if ordF j < n then rhoF f j else 0
theorem rhoG_zero (f : Nat → Nat) (j : Nat) : 0 = rhoG f 0 j := by unfold rhoG; rw [if_neg (by omega)]
theorem ord_at : ∀ x, x < 5 → ∀ y, y < 5 → ordF (y + 5 * ((2 * x + 3 * y) % 5)) = 5 * x + y := by decide +kernel
theorem ord_inj : ∀ j, j < 25 → ∀ x, x < 5 → ∀ y, y < 5 → ordF j = 5 * x + y → j = y + 5 * ((2 * x + 3 * y) % 5) := by decide +kernel
theorem rhoG_succ (f : Nat → Nat) {x y : Nat} (hx : x < 5) (hy : y < 5) : ∀ j, j < 25 → (if j = y + 5 * ((2 * x + 3 * y) % 5) then rhoF f (y + 5 * ((2 * x + 3 * y) % 5)) else rhoG f (5 * x + y) j) = rhoG f (5 * x + y + 1) j := fun j hj => by
  unfold rhoG
  by_cases h : j = y + 5 * ((2 * x + 3 * y) % 5)
  · rw [if_pos h, h, ord_at x hx y hy, if_pos (by omega)]
  · rw [if_neg h]
    have h3 : ordF j ≠ 5 * x + y := fun e => h (ord_inj j hj x hx y hy e)
    by_cases h2 : ordF j < 5 * x + y
    · rw [if_pos h2, if_pos (by omega)]
    · rw [if_neg h2, if_neg (by omega)]
theorem rhoG_all (f : Nat → Nat) : ∀ j, j < 25 → rhoG f 25 j = rhoF f j := fun j hj => by unfold rhoG ordF; rw [if_pos (by omega)]
theorem src_at : ∀ x, x < 5 → ∀ y, y < 5 → srcF (y + 5 * ((2 * x + 3 * y) % 5)) = x + 5 * y := by decide +kernel

/-- The mixed lanes so far, in the document's order. -/
def chiG (f : Nat → Nat) (n : Nat) : Nat → Nat := fun j => if 5 * (j % 5) + j / 5 < n then chiF f j else 0
theorem chiG_zero (f : Nat → Nat) (j : Nat) : 0 = chiG f 0 j := by unfold chiG; rw [if_neg (by omega)]
theorem chiG_succ (f : Nat → Nat) {x y : Nat} (hx : x < 5) (hy : y < 5) : ∀ j, j < 25 → (if j = x + 5 * y then chiF f (x + 5 * y) else chiG f (5 * x + y) j) = chiG f (5 * x + y + 1) j := fun j hj => by
  unfold chiG
  by_cases h : j = x + 5 * y
  · rw [if_pos h, ← h, if_pos (by omega)]
  · rw [if_neg h]
    by_cases h2 : 5 * (j % 5) + j / 5 < 5 * x + y
    · rw [if_pos h2, if_pos (by omega)]
    · rw [if_neg h2, if_neg (by omega)]
theorem chiG_all (f : Nat → Nat) : ∀ j, j < 25 → chiG f 25 j = chiF f j := fun j hj => by unfold chiG; rw [if_pos (by omega)]
theorem chi_at (f : Nat → Nat) {x y : Nat} (hx : x < 5) (hy : y < 5) : chiF f (x + 5 * y) = f (x + 5 * y) ^^^ (notl (f ((x + 1) % 5 + 5 * y)) &&& f ((x + 2) % 5 + 5 * y)) := by
  unfold chiF
  rw [show (x + 5 * y) / 5 * 5 + ((x + 5 * y) % 5 + 1) % 5 = (x + 1) % 5 + 5 * y by omega, show (x + 5 * y) / 5 * 5 + ((x + 5 * y) % 5 + 2) % 5 = (x + 2) % 5 + 5 * y by omega]

theorem rnd_at (i : Nat) (f : Nat → Nat) (j : Nat) : (if j = 0 then chiF (rhoF (theF f)) 0 ^^^ rcF i else chiF (rhoF (theF f)) j) = rndF i f j := rfl

attribute [local irreducible] colP colF colG theF rhoF rhoG chiF chiG rndF rotl notl rotF rcF numA

theorem u64_notR {x : Nat} (h : x < M64) : bits .xor .u64 (if IntKind.u64.signed = true then -1 else IntKind.u64.max) (x : Int) = ((notl x : Nat) : Int) := u64_notN h
theorem info25s : (Tryd.prog.info? 139).map (·.size) = some 25 := by kernel_rfl
theorem under25s : Tryd.prog.underlying 139 = some (.array 25 23) := by kernel_rfl

set_option maxRecDepth 100000 in
set_option maxHeartbeats 8000000 in
/-- round. -/
theorem ref_round (f : Nat → Nat) (hf : LL f) (i : Nat) (hi : i < 24) (w : World) :
    Calls Tryd.prog 90 #[.agg (numA .u64 25 f), .int .i64 (i : Nat), .agg (numA .i64 25 rotF)] w fun e w' => e = .returned (.agg (numA .u64 25 (rndF i f))) ∧ Below w.heap.size w w' := by
  go_enter Tryd.func90, Tryd.ntmps90
  go_wp2
  rw [← numA25, ← numA5]
  go_loopw [8] (fun v wr => ∃ x : Nat, x ≤ 5 ∧ v = .int .i64 x ∧ rowN .u64 5 126 wr (w.heap.size + 1 + 1 + 1) (colG f x 0) ∧ rowN .u64 25 139 wr w.heap.size f ∧ rowN .i64 25 137 wr (w.heap.size + 1) rotF ∧ rowN .u64 25 139 wr (w.heap.size + 1 + 1) (fun _ => 0) ∧ Below w.heap.size w wr)
    (fun v _ => 5 - (intOf v).toNat)
  case atStart =>
    refine ⟨0, by omega, rfl, (rowN.new (by simp)).to fun j _ => colG_zero f j, (((rowN.new rfl).alloc _).alloc _).alloc _, ((rowN.new (by simp)).alloc _).alloc _, (rowN.new (by simp)).alloc _, ?_⟩
    repeat (with_reducible first | exact Below.refl _ _ | assumption | refine below_drewN ?_ _ | refine Below.drew ?_ | refine below_setRow' ?_ (by first | omega | (simp; done) | (simp; omega)) _ | refine Below.setCell ?_ (by first | omega | (simp; done) | (simp; omega)) _ | refine Below.alloc ?_ (by first | omega | (simp; done) | (simp; omega)) _ | refine Below.trans ?_ (Below.mono (by assumption) (by first | omega | (simp; done) | (simp; omega))))
  case round =>
    obtain ⟨x, hx, rfl, hrc, hra, hrr, hres, hbel⟩ := hrel
    have hlc := hrc.lt
    by_cases h5 : x < 5
    · have h5i : (x : Int) < 5 := by omega
      go_wp2
      go_loopw [9] (fun v wr => ∃ y : Nat, y ≤ 5 ∧ v = .int .i64 y ∧ rowN .u64 5 126 wr (w.heap.size + 1 + 1 + 1) (colG f x y) ∧ rowN .u64 25 139 wr w.heap.size f ∧ rowN .i64 25 137 wr (w.heap.size + 1) rotF ∧ rowN .u64 25 139 wr (w.heap.size + 1 + 1) (fun _ => 0) ∧ Below w.heap.size w wr)
        (fun v _ => 5 - (intOf v).toNat)
      case atStart => exact ⟨0, by omega, rfl, hrc, hra, hrr, hres, hbel⟩
      case round =>
        obtain ⟨y, hy, rfl, hrc, hra, hrr, hres, hbel⟩ := hrel
        have hlc := hrc.lt
        by_cases hy5 : y < 5
        · have hy5i : (y : Int) < 5 := by omega
          have cc := hrc.cellAt h5
          rw [colG_at] at cc
          have fc := hrc.free
          have cA : ∀ W, Calls Tryd.prog 93 #[.int .i64 (x : Nat), .int .i64 (y : Nat)] W fun e w' => e = .returned (.int .i64 ((x + 5 * y : Nat) : Int)) ∧ Below W.heap.size W w' := fun W => by
            have := ref_at x y (by omega) (by omega) W
            rwa [Nat.mod_eq_of_lt h5, Nat.mod_eq_of_lt hy5] at this
          have hL : x + 5 * y < 25 := by omega
          have ca := hra.cellAt hL
          have hx1 := u64_xorN (colP_lt hf x y) (hf (x + 5 * y))
          have hsu := colG_succ f x y
          generalize x + 5 * y = L at *
          have hLi : ((L : Nat) : Int) < 25 := by omega
          have z1 : w.heap.size < wr.heap.size := by omega
          have z2 : w.heap.size + 1 < wr.heap.size := by omega
          go_wp2
          refine wp_flow (fun k => ([1, 1, 1, 1, 1, 1, 1, 1, 1, 1, 1, 2] : List Nat).getD k 1) (Below (wr.heap.size)) _ (Below.drew (Below.refl _ _)) (by kernel_rfl) (by kernel_rfl) ?_
          iterate 6 ((refine flow_quiet rfl rfl (fun K hK => ?_); apply Exists.intro; apply And.intro; (focus (intro w' hw'; have hc := (bcell hw').1; go_simp; (try go_bits); all_goals (first | exact rfl | exact ⟨rfl, hw'⟩))); go_simp; (try go_bits); refine hK _ ?_; clear hK K))
          first | (refine flow_quiet rfl rfl (fun K hK => ?_); apply Exists.intro; apply And.intro; (focus (intro w' hw'; have hc := (bcell hw').1; go_simp; (try go_bits); all_goals (go_at_call 93; with_reducible refine (cA _).mono ?_; rintro e w2 ⟨rfl, hb⟩; exact ⟨rfl, hw'.trans (hb.mono (below_le hw' (by simp)))⟩))); go_simp; (try go_bits); refine hK _ ?_; clear hK K) | (refine flow_quiet rfl rfl (fun K hK => ?_); apply Exists.intro; apply And.intro; (focus (intro w' hw'; have hc := (bcell hw').1; go_simp; (try go_bits); all_goals (go_at_call 93; refine (cA _).mono ?_; rintro e w2 ⟨rfl, hb⟩; exact ⟨rfl, hw'.trans (hb.mono (below_le hw' (by simp)))⟩))); go_simp; (try go_bits); refine hK _ ?_; clear hK K)
          iterate 4 ((refine flow_quiet rfl rfl (fun K hK => ?_); apply Exists.intro; apply And.intro; (focus (intro w' hw'; have hc := (bcell hw').1; go_simp; (try go_bits); all_goals (first | exact rfl | exact ⟨rfl, hw'⟩))); go_simp; (try go_bits); refine hK _ ?_; clear hK K))
          (refine flow_eff rfl rfl (fun K hK => ?_); apply Exists.intro; apply Exists.intro; apply And.intro; (focus (intro w' hw'; have hc := (bcell hw').1; have hf := (bcell hw').2; go_simp; (try go_bits); refine ⟨rfl, ?_⟩; (repeat apply below_store); exact hw')); go_simp; (try go_bits); refine hK _ _ ?_; clear hK K)
          refine flow_nil ?_
          intro w' hw'
          go_wp2
          go_roundw
          case rel =>
            refine ⟨y + 1, by omega, by go_num, (hrc.store.to fun j _ => hsu j).below hw' (by omega), (hra.set (by omega)).below hw' (by omega), (hrr.set (by omega)).below hw' (by omega), (hres.set (by omega)).below hw' (by omega), ?_⟩
            exact (hbel.setCell (by first | omega | (simp; omega)) _).trans (hw'.mono (by omega))
          case measure => simp [intOf]; omega
        · have hmf : decide ((y : Int) < 5) = false := by simp; omega
          replace hrc := hrc.to (show ∀ j, j < 5 → colG f x y j = colG f (x + 1) 0 j from fun j _ => by rw [show y = 5 by omega]; exact colG_next f x j)
          clear hy5 hy
          go_wp2
          go_roundw
          case rel => exact ⟨x + 1, by omega, by go_num, hrc, hra, hrr, hres, hbel⟩
          case measure => simp [intOf]; omega
    · have hmf : decide ((x : Int) < 5) = false := by simp; omega
      replace hrc := hrc.to (show ∀ j, j < 5 → colG f x 0 j = colF f j by rw [show x = 5 by omega]; exact colG_all f 0)
      clear h5 hx
      go_wp2
      rw [← numA25]
      have hbw := hbel.size
      have hbz := hbel.size
      generalize hb0 : wr.heap.size = b0 at hlc hbw ⊢
      replace hb0 := Lib.hid hb0
      have hF2 := theF_lt hf
      go_loopw [11] (fun v wr => ∃ x : Nat, x ≤ 5 ∧ v = .int .i64 x ∧ rowN .u64 25 139 wr b0 (rhoG (theF f) (5 * x)) ∧ rowN .u64 5 126 wr (w.heap.size + 1 + 1 + 1) (colF f) ∧ rowN .u64 25 139 wr w.heap.size f ∧ rowN .i64 25 137 wr (w.heap.size + 1) rotF ∧ rowN .u64 25 139 wr (w.heap.size + 1 + 1) (fun _ => 0) ∧ Below w.heap.size w wr)
        (fun v _ => 5 - (intOf v).toNat)
      case atStart =>
        refine ⟨0, by omega, rfl, (rowN.new hb0.out.symm).to fun j _ => rhoG_zero _ j, hrc.alloc _, hra.alloc _, hrr.alloc _, hres.alloc _, ?_⟩
        repeat (with_reducible first | exact Below.refl _ _ | assumption | refine below_drewN ?_ _ | refine Below.drew ?_ | refine below_setRow' ?_ (by first | omega | (simp; done) | (simp; omega)) _ | refine Below.setCell ?_ (by first | omega | (simp; done) | (simp; omega)) _ | refine Below.alloc ?_ (by first | omega | (simp; done) | (simp; omega)) _ | refine Below.trans ?_ (Below.mono (by assumption) (by first | omega | (simp; done) | (simp; omega))))
      case round =>
        obtain ⟨x, hx, rfl, hrb, hrc, hra, hrr, hres, hbel⟩ := hrel
        by_cases h5 : x < 5
        · have h5i : (x : Int) < 5 := by omega
          go_wp2
          go_loopw [12] (fun v wr => ∃ y : Nat, y ≤ 5 ∧ v = .int .i64 y ∧ rowN .u64 25 139 wr b0 (rhoG (theF f) (5 * x + y)) ∧ rowN .u64 5 126 wr (w.heap.size + 1 + 1 + 1) (colF f) ∧ rowN .u64 25 139 wr w.heap.size f ∧ rowN .i64 25 137 wr (w.heap.size + 1) rotF ∧ rowN .u64 25 139 wr (w.heap.size + 1 + 1) (fun _ => 0) ∧ Below w.heap.size w wr)
            (fun v _ => 5 - (intOf v).toNat)
          case atStart => exact ⟨0, by omega, rfl, hrb, hrc, hra, hrr, hres, hbel⟩
          case round =>
            obtain ⟨y, hy, rfl, hrb, hrc, hra, hrr, hres, hbel⟩ := hrel
            have hlb := hrb.lt
            by_cases hy5 : y < 5
            · have hy5i : (y : Int) < 5 := by omega
              have hi1 : 0 ≤ ((x : Int) + 4) % 5 := by omega
              have hi2 : ((x : Int) + 4) % 5 < 5 := by omega
              have hi3 : (((x : Int) + 4) % 5).toNat = (x + 4) % 5 := by omega
              have hi4 : 0 ≤ ((x : Int) + 1) % 5 := by omega
              have hi5 : ((x : Int) + 1) % 5 < 5 := by omega
              have hi6 : (((x : Int) + 1) % 5).toNat = (x + 1) % 5 := by omega
              have c4 := hrc.cellAt (j := (x + 4) % 5) (by omega)
              have c1 := hrc.cellAt (j := (x + 1) % 5) (by omega)
              have cA : ∀ W, Calls Tryd.prog 93 #[.int .i64 (x : Nat), .int .i64 (y : Nat)] W fun e w' => e = .returned (.int .i64 ((x + 5 * y : Nat) : Int)) ∧ Below W.heap.size W w' := fun W => by
                have := ref_at x y (by omega) (by omega) W
                rwa [Nat.mod_eq_of_lt h5, Nat.mod_eq_of_lt hy5] at this
              have cA0 : ∀ W, Calls Tryd.prog 93 #[.int .i64 (x : Nat), .int .i64 (y : Nat)] W fun e w' => e = .returned (.int .i64 ((x + 5 * y : Nat) : Int)) ∧ w' = W := fun W => by
                have := ref_at0 x y (by omega) (by omega) W
                rwa [Nat.mod_eq_of_lt h5, Nat.mod_eq_of_lt hy5] at this
              have cB0 : ∀ W, Calls Tryd.prog 93 #[.int .i64 (y : Nat), .int .i64 (2 * (x : Int) + 3 * (y : Int))] W fun e w' => e = .returned (.int .i64 ((y + 5 * ((2 * x + 3 * y) % 5) : Nat) : Int)) ∧ w' = W := fun W => by
                have := ref_at0 y (2 * x + 3 * y) (by omega) (by omega) W
                rw [Nat.mod_eq_of_lt hy5] at this
                push_cast at this ⊢
                exact this
              have cL1 : ∀ W, Calls Tryd.prog 94 #[.int .u64 (colF f ((x + 1) % 5) : Nat), .int .i64 1] W fun e w' => e = .returned (.int .u64 (rotl (colF f ((x + 1) % 5)) 1 : Nat)) ∧ Below W.heap.size W w' := fun W => ref_left _ 1 (colF_lt hf _) (by decide) W
              have hL : x + 5 * y < 25 := by omega
              have hT : y + 5 * ((2 * x + 3 * y) % 5) < 25 := by omega
              have ca := hra.cellAt hL
              have cr := hrr.cellAt hL
              have hx1 := u64_xorN (hf (x + 5 * y)) (colF_lt hf ((x + 4) % 5))
              have hx2 : bits .xor .u64 ((f (x + 5 * y) ^^^ colF f ((x + 4) % 5) : Nat) : Int) ((rotl (colF f ((x + 1) % 5)) 1 : Nat) : Int) = ((theF f (x + 5 * y) : Nat) : Int) := by
                rw [u64_xorN (xor_lt (hf _) (colF_lt hf _)) (rotl_lt (colF_lt hf _)), Nat.xor_assoc]
                unfold theF
                rw [show (x + 5 * y + 4) % 5 = (x + 4) % 5 by omega, show (x + 5 * y + 1) % 5 = (x + 1) % 5 by omega]
              have cL2 : ∀ W, Calls Tryd.prog 94 #[.int .u64 (theF f (x + 5 * y) : Nat), .int .i64 (rotF (x + 5 * y) : Nat)] W fun e w' => e = .returned (.int .u64 (rhoF (theF f) (y + 5 * ((2 * x + 3 * y) % 5)) : Nat)) ∧ ∃ nn, w' = W.drewN nn := fun W => by
                have := ref_left0 _ _ (hF2 (x + 5 * y)) (rot_lt _ hL) W
                unfold rhoF
                rw [src_at x h5 y hy5]
                exact this
              have fb := hrb.free
              have cb := hrb.cellAt hT
              have hsu := rhoG_succ (theF f) h5 hy5
              generalize y + 5 * ((2 * x + 3 * y) % 5) = T at *
              generalize x + 5 * y = L at *
              have hLi : ((L : Nat) : Int) < 25 := by omega
              have hTi : ((T : Nat) : Int) < 25 := by omega
              have z1 : w.heap.size < wr.heap.size := by omega
              have z2 : w.heap.size + 1 < wr.heap.size := by omega
              have z3 : w.heap.size + 1 + 1 + 1 < wr.heap.size := by omega
              go_wp2
              refine wp_flow (fun k => ([1, 1, 1, 1, 1, 1, 1, 1, 1, 1, 1, 1, 1, 1, 1, 1, 1, 1, 1] : List Nat).getD k 1) (Below (wr.heap.size)) _ (Below.drew (Below.refl _ _)) (by kernel_rfl) (by kernel_rfl) ?_
              iterate 2 ((refine flow_quiet rfl rfl (fun K hK => ?_); apply Exists.intro; apply And.intro; (focus (intro w' hw'; have hc := (bcell hw').1; go_simp; (try go_bits); all_goals (first | exact rfl | exact ⟨rfl, hw'⟩))); go_simp; (try go_bits); refine hK _ ?_; clear hK K))
              first | (refine flow_quiet rfl rfl (fun K hK => ?_); apply Exists.intro; apply And.intro; (focus (intro w' hw'; have hc := (bcell hw').1; go_simp; (try go_bits); all_goals (go_at_call 93; with_reducible refine (cA _).mono ?_; rintro e w2 ⟨rfl, hb⟩; exact ⟨rfl, hw'.trans (hb.mono (below_le hw' (by simp)))⟩))); go_simp; (try go_bits); refine hK _ ?_; clear hK K) | (refine flow_quiet rfl rfl (fun K hK => ?_); apply Exists.intro; apply And.intro; (focus (intro w' hw'; have hc := (bcell hw').1; go_simp; (try go_bits); all_goals (go_at_call 93; refine (cA _).mono ?_; rintro e w2 ⟨rfl, hb⟩; exact ⟨rfl, hw'.trans (hb.mono (below_le hw' (by simp)))⟩))); go_simp; (try go_bits); refine hK _ ?_; clear hK K)
              iterate 13 ((refine flow_quiet rfl rfl (fun K hK => ?_); apply Exists.intro; apply And.intro; (focus (intro w' hw'; have hc := (bcell hw').1; go_simp; (try go_bits); all_goals (first | exact rfl | exact ⟨rfl, hw'⟩))); go_simp; (try go_bits); refine hK _ ?_; clear hK K))
              first | (refine flow_quiet rfl rfl (fun K hK => ?_); apply Exists.intro; apply And.intro; (focus (intro w' hw'; have hc := (bcell hw').1; go_simp; (try go_bits); all_goals (go_at_call 94; with_reducible refine (cL1 _).mono ?_; rintro e w2 ⟨rfl, hb⟩; exact ⟨rfl, hw'.trans (hb.mono (below_le hw' (by simp)))⟩))); go_simp; (try go_bits); refine hK _ ?_; clear hK K) | (refine flow_quiet rfl rfl (fun K hK => ?_); apply Exists.intro; apply And.intro; (focus (intro w' hw'; have hc := (bcell hw').1; go_simp; (try go_bits); all_goals (go_at_call 94; refine (cL1 _).mono ?_; rintro e w2 ⟨rfl, hb⟩; exact ⟨rfl, hw'.trans (hb.mono (below_le hw' (by simp)))⟩))); go_simp; (try go_bits); refine hK _ ?_; clear hK K)
              iterate 2 ((refine flow_quiet rfl rfl (fun K hK => ?_); apply Exists.intro; apply And.intro; (focus (intro w' hw'; have hc := (bcell hw').1; go_simp; (try go_bits); all_goals (first | exact rfl | exact ⟨rfl, hw'⟩))); go_simp; (try go_bits); refine hK _ ?_; clear hK K))
              refine flow_nil ?_
              intro w' hw'
              replace hrb := hrb.below hw' hlb
              replace hrc := hrc.below hw' z3
              replace hra := hra.below hw' z1
              replace hrr := hrr.below hw' z2
              replace hres := hres.below hw' (by omega)
              replace hbel := hbel.trans (hw'.mono (by omega))
              have cr := hrr.cellAt hL
              have fb := hrb.free
              have cb := hrb.cellAt hT
              clear hw'
              go_wp2_with (first
                | (go_at_call 93; with_reducible refine (cB0 _).mono ?_; rintro e wx ⟨rfl, rfl⟩)
                | (go_at_call 93; with_reducible refine (cA0 _).mono ?_; rintro e wx ⟨rfl, rfl⟩)
                | (go_at_call 94; with_reducible refine (cL2 _).mono ?_; rintro e wx ⟨rfl, nn, rfl⟩))
              go_roundw
              case rel =>
                refine ⟨y + 1, by omega, by go_num, (hrb.drewN _).store.to hsu, (hrc.drewN _).set (by omega), (hra.drewN _).set (by omega), (hrr.drewN _).set (by omega), (hres.drewN _).set (by omega), ?_⟩
                repeat (with_reducible first | exact Below.refl _ _ | assumption | refine below_drewN ?_ _ | refine Below.drew ?_ | refine below_setRow' ?_ (by first | omega | (simp; done) | (simp; omega)) _ | refine Below.setCell ?_ (by first | omega | (simp; done) | (simp; omega)) _ | refine Below.alloc ?_ (by first | omega | (simp; done) | (simp; omega)) _ | refine Below.trans ?_ (Below.mono (by assumption) (by first | omega | (simp; done) | (simp; omega))))
              case measure => simp [intOf]; omega
            · have hmf : decide ((y : Int) < 5) = false := by simp; omega
              obtain rfl : y = 5 := by omega
              go_wp2
              go_roundw
              case rel => exact ⟨x + 1, by omega, by go_num, hrb, hrc, hra, hrr, hres, hbel⟩
              case measure => simp [intOf]; omega
        · have hmf : decide ((x : Int) < 5) = false := by simp; omega
          replace hrb := hrb.to (show ∀ j, j < 25 → rhoG (theF f) (5 * x) j = rhoF (theF f) j by rw [show x = 5 by omega]; exact rhoG_all _)
          clear h5 hx
          have hF3 := rhoF_lt hF2
          have hend : ∀ j, (if j = 0 then chiF (rhoF (theF f)) 0 ^^^ rcF i else chiF (rhoF (theF f)) j) = rndF i f j := fun j => rnd_at i f j
          generalize rhoF (theF f) = H at *
          clear hrc hra hrr
          go_wp2
          rw [← numA25]
          have hbw := hbel.size
          have hbz := hbel.size
          have hlb := hrb.lt
          generalize ho0 : wr.heap.size = o0 at hlb hbw ⊢
          replace ho0 := Lib.hid ho0
          have zr : w.heap.size + 1 + 1 < o0 := by omega
          replace hend := Lib.hid hend
          go_loopw [15] (fun v wr => ∃ x : Nat, x ≤ 5 ∧ v = .int .i64 x ∧ rowN .u64 25 139 wr o0 (chiG H (5 * x)) ∧ rowN .u64 25 139 wr b0 H ∧ rowN .u64 25 139 wr (w.heap.size + 1 + 1) (fun _ => 0) ∧ Below w.heap.size w wr)
            (fun v _ => 5 - (intOf v).toNat)
          case atStart =>
            refine ⟨0, by omega, rfl, (rowN.new ho0.out.symm).to fun j _ => chiG_zero _ j, hrb.alloc _, hres.alloc _, ?_⟩
            repeat (with_reducible first | exact Below.refl _ _ | assumption | refine below_drewN ?_ _ | refine Below.drew ?_ | refine below_setRow' ?_ (by first | omega | (simp; done) | (simp; omega)) _ | refine Below.setCell ?_ (by first | omega | (simp; done) | (simp; omega)) _ | refine Below.alloc ?_ (by first | omega | (simp; done) | (simp; omega)) _ | refine Below.trans ?_ (Below.mono (by assumption) (by first | omega | (simp; done) | (simp; omega))))
          case round =>
            obtain ⟨x, hx, rfl, hro, hrb, hres, hbel⟩ := hrel
            by_cases h5 : x < 5
            · have h5i : (x : Int) < 5 := by omega
              go_wp2
              go_loopw [16] (fun v wr => ∃ y : Nat, y ≤ 5 ∧ v = .int .i64 y ∧ rowN .u64 25 139 wr o0 (chiG H (5 * x + y)) ∧ rowN .u64 25 139 wr b0 H ∧ rowN .u64 25 139 wr (w.heap.size + 1 + 1) (fun _ => 0) ∧ Below w.heap.size w wr)
                (fun v _ => 5 - (intOf v).toNat)
              case atStart => exact ⟨0, by omega, rfl, hro, hrb, hres, hbel⟩
              case round =>
                obtain ⟨y, hy, rfl, hro, hrb, hres, hbel⟩ := hrel
                have hlo := hro.lt
                by_cases hy5 : y < 5
                · have hy5i : (y : Int) < 5 := by omega
                  have cA : ∀ W, Calls Tryd.prog 93 #[.int .i64 (x : Nat), .int .i64 (y : Nat)] W fun e w' => e = .returned (.int .i64 ((x + 5 * y : Nat) : Int)) ∧ Below W.heap.size W w' := fun W => by
                    have := ref_at x y (by omega) (by omega) W
                    rwa [Nat.mod_eq_of_lt h5, Nat.mod_eq_of_lt hy5] at this
                  have cB : ∀ W, Calls Tryd.prog 93 #[.int .i64 ((x : Int) + 1), .int .i64 (y : Nat)] W fun e w' => e = .returned (.int .i64 (((x + 1) % 5 + 5 * y : Nat) : Int)) ∧ Below W.heap.size W w' := fun W => by
                    have := ref_at (x + 1) y (by omega) (by omega) W
                    rw [Nat.mod_eq_of_lt hy5] at this
                    push_cast at this ⊢
                    exact this
                  have cC : ∀ W, Calls Tryd.prog 93 #[.int .i64 ((x : Int) + 2), .int .i64 (y : Nat)] W fun e w' => e = .returned (.int .i64 (((x + 2) % 5 + 5 * y : Nat) : Int)) ∧ Below W.heap.size W w' := fun W => by
                    have := ref_at (x + 2) y (by omega) (by omega) W
                    rw [Nat.mod_eq_of_lt hy5] at this
                    push_cast at this ⊢
                    exact this
                  have hL : x + 5 * y < 25 := by omega
                  have hM : (x + 1) % 5 + 5 * y < 25 := by omega
                  have hK : (x + 2) % 5 + 5 * y < 25 := by omega
                  have hx3 := chi_at H h5 hy5
                  have hsu := chiG_succ H h5 hy5
                  generalize (x + 1) % 5 + 5 * y = M at *
                  generalize (x + 2) % 5 + 5 * y = K at *
                  generalize x + 5 * y = L at *
                  have hLi : ((L : Nat) : Int) < 25 := by omega
                  have hMi : ((M : Nat) : Int) < 25 := by omega
                  have hKi : ((K : Nat) : Int) < 25 := by omega
                  have bl := hrb.cellAt hL
                  have bm := hrb.cellAt hM
                  have bk := hrb.cellAt hK
                  have fo := hro.free
                  have co := hro.cellAt hL
                  have hn := u64_notR (hF3 M)
                  have ha := u64_andN (b := H K) (notl_lt (hF3 M)) (hF3 K)
                  have hx1 : bits .xor .u64 ((H L : Nat) : Int) ((notl (H M) &&& H K : Nat) : Int) = ((chiF H L : Nat) : Int) := by
                    rw [u64_xorN (hF3 L) (and_lt (notl_lt (hF3 M))), hx3]
                  clear hx3
                  have z1 : b0 < wr.heap.size := hrb.lt
                  go_wp2
                  refine wp_flow (fun k => ([1, 1, 1, 1, 1, 1, 1, 1, 1, 1, 1, 1, 1, 1, 1, 1, 1, 1, 1, 1, 1, 1, 1, 1, 2] : List Nat).getD k 1) (Below (wr.heap.size)) _ (Below.drew (Below.refl _ _)) (by kernel_rfl) (by kernel_rfl) ?_
                  iterate 2 ((refine flow_quiet rfl rfl (fun K hK => ?_); apply Exists.intro; apply And.intro; (focus (intro w' hw'; have hc := (bcell hw').1; go_simp; (try go_bits); all_goals (first | exact rfl | exact ⟨rfl, hw'⟩))); go_simp; (try go_bits); refine hK _ ?_; clear hK K))
                  first | (refine flow_quiet rfl rfl (fun K hK => ?_); apply Exists.intro; apply And.intro; (focus (intro w' hw'; have hc := (bcell hw').1; go_simp; (try go_bits); all_goals (go_at_call 93; with_reducible refine (cA _).mono ?_; rintro e w2 ⟨rfl, hb⟩; exact ⟨rfl, hw'.trans (hb.mono (below_le hw' (by simp)))⟩))); go_simp; (try go_bits); refine hK _ ?_; clear hK K) | (refine flow_quiet rfl rfl (fun K hK => ?_); apply Exists.intro; apply And.intro; (focus (intro w' hw'; have hc := (bcell hw').1; go_simp; (try go_bits); all_goals (go_at_call 93; with_reducible refine (cB _).mono ?_; rintro e w2 ⟨rfl, hb⟩; exact ⟨rfl, hw'.trans (hb.mono (below_le hw' (by simp)))⟩))); go_simp; (try go_bits); refine hK _ ?_; clear hK K) | (refine flow_quiet rfl rfl (fun K hK => ?_); apply Exists.intro; apply And.intro; (focus (intro w' hw'; have hc := (bcell hw').1; go_simp; (try go_bits); all_goals (go_at_call 93; with_reducible refine (cC _).mono ?_; rintro e w2 ⟨rfl, hb⟩; exact ⟨rfl, hw'.trans (hb.mono (below_le hw' (by simp)))⟩))); go_simp; (try go_bits); refine hK _ ?_; clear hK K) | (refine flow_quiet rfl rfl (fun K hK => ?_); apply Exists.intro; apply And.intro; (focus (intro w' hw'; have hc := (bcell hw').1; go_simp; (try go_bits); all_goals (go_at_call 93; refine (cA _).mono ?_; rintro e w2 ⟨rfl, hb⟩; exact ⟨rfl, hw'.trans (hb.mono (below_le hw' (by simp)))⟩))); go_simp; (try go_bits); refine hK _ ?_; clear hK K) | (refine flow_quiet rfl rfl (fun K hK => ?_); apply Exists.intro; apply And.intro; (focus (intro w' hw'; have hc := (bcell hw').1; go_simp; (try go_bits); all_goals (go_at_call 93; refine (cB _).mono ?_; rintro e w2 ⟨rfl, hb⟩; exact ⟨rfl, hw'.trans (hb.mono (below_le hw' (by simp)))⟩))); go_simp; (try go_bits); refine hK _ ?_; clear hK K) | (refine flow_quiet rfl rfl (fun K hK => ?_); apply Exists.intro; apply And.intro; (focus (intro w' hw'; have hc := (bcell hw').1; go_simp; (try go_bits); all_goals (go_at_call 93; refine (cC _).mono ?_; rintro e w2 ⟨rfl, hb⟩; exact ⟨rfl, hw'.trans (hb.mono (below_le hw' (by simp)))⟩))); go_simp; (try go_bits); refine hK _ ?_; clear hK K)
                  iterate 2 ((refine flow_quiet rfl rfl (fun K hK => ?_); apply Exists.intro; apply And.intro; (focus (intro w' hw'; have hc := (bcell hw').1; go_simp; (try go_bits); all_goals (first | exact rfl | exact ⟨rfl, hw'⟩))); go_simp; (try go_bits); refine hK _ ?_; clear hK K))
                  first | (refine flow_quiet rfl rfl (fun K hK => ?_); apply Exists.intro; apply And.intro; (focus (intro w' hw'; have hc := (bcell hw').1; go_simp; (try go_bits); all_goals (go_at_call 93; with_reducible refine (cA _).mono ?_; rintro e w2 ⟨rfl, hb⟩; exact ⟨rfl, hw'.trans (hb.mono (below_le hw' (by simp)))⟩))); go_simp; (try go_bits); refine hK _ ?_; clear hK K) | (refine flow_quiet rfl rfl (fun K hK => ?_); apply Exists.intro; apply And.intro; (focus (intro w' hw'; have hc := (bcell hw').1; go_simp; (try go_bits); all_goals (go_at_call 93; with_reducible refine (cB _).mono ?_; rintro e w2 ⟨rfl, hb⟩; exact ⟨rfl, hw'.trans (hb.mono (below_le hw' (by simp)))⟩))); go_simp; (try go_bits); refine hK _ ?_; clear hK K) | (refine flow_quiet rfl rfl (fun K hK => ?_); apply Exists.intro; apply And.intro; (focus (intro w' hw'; have hc := (bcell hw').1; go_simp; (try go_bits); all_goals (go_at_call 93; with_reducible refine (cC _).mono ?_; rintro e w2 ⟨rfl, hb⟩; exact ⟨rfl, hw'.trans (hb.mono (below_le hw' (by simp)))⟩))); go_simp; (try go_bits); refine hK _ ?_; clear hK K) | (refine flow_quiet rfl rfl (fun K hK => ?_); apply Exists.intro; apply And.intro; (focus (intro w' hw'; have hc := (bcell hw').1; go_simp; (try go_bits); all_goals (go_at_call 93; refine (cA _).mono ?_; rintro e w2 ⟨rfl, hb⟩; exact ⟨rfl, hw'.trans (hb.mono (below_le hw' (by simp)))⟩))); go_simp; (try go_bits); refine hK _ ?_; clear hK K) | (refine flow_quiet rfl rfl (fun K hK => ?_); apply Exists.intro; apply And.intro; (focus (intro w' hw'; have hc := (bcell hw').1; go_simp; (try go_bits); all_goals (go_at_call 93; refine (cB _).mono ?_; rintro e w2 ⟨rfl, hb⟩; exact ⟨rfl, hw'.trans (hb.mono (below_le hw' (by simp)))⟩))); go_simp; (try go_bits); refine hK _ ?_; clear hK K) | (refine flow_quiet rfl rfl (fun K hK => ?_); apply Exists.intro; apply And.intro; (focus (intro w' hw'; have hc := (bcell hw').1; go_simp; (try go_bits); all_goals (go_at_call 93; refine (cC _).mono ?_; rintro e w2 ⟨rfl, hb⟩; exact ⟨rfl, hw'.trans (hb.mono (below_le hw' (by simp)))⟩))); go_simp; (try go_bits); refine hK _ ?_; clear hK K)
                  iterate 5 ((refine flow_quiet rfl rfl (fun K hK => ?_); apply Exists.intro; apply And.intro; (focus (intro w' hw'; have hc := (bcell hw').1; go_simp; (try go_bits); all_goals (first | exact rfl | exact ⟨rfl, hw'⟩))); go_simp; (try go_bits); refine hK _ ?_; clear hK K))
                  first | (refine flow_quiet rfl rfl (fun K hK => ?_); apply Exists.intro; apply And.intro; (focus (intro w' hw'; have hc := (bcell hw').1; go_simp; (try go_bits); all_goals (go_at_call 93; with_reducible refine (cA _).mono ?_; rintro e w2 ⟨rfl, hb⟩; exact ⟨rfl, hw'.trans (hb.mono (below_le hw' (by simp)))⟩))); go_simp; (try go_bits); refine hK _ ?_; clear hK K) | (refine flow_quiet rfl rfl (fun K hK => ?_); apply Exists.intro; apply And.intro; (focus (intro w' hw'; have hc := (bcell hw').1; go_simp; (try go_bits); all_goals (go_at_call 93; with_reducible refine (cB _).mono ?_; rintro e w2 ⟨rfl, hb⟩; exact ⟨rfl, hw'.trans (hb.mono (below_le hw' (by simp)))⟩))); go_simp; (try go_bits); refine hK _ ?_; clear hK K) | (refine flow_quiet rfl rfl (fun K hK => ?_); apply Exists.intro; apply And.intro; (focus (intro w' hw'; have hc := (bcell hw').1; go_simp; (try go_bits); all_goals (go_at_call 93; with_reducible refine (cC _).mono ?_; rintro e w2 ⟨rfl, hb⟩; exact ⟨rfl, hw'.trans (hb.mono (below_le hw' (by simp)))⟩))); go_simp; (try go_bits); refine hK _ ?_; clear hK K) | (refine flow_quiet rfl rfl (fun K hK => ?_); apply Exists.intro; apply And.intro; (focus (intro w' hw'; have hc := (bcell hw').1; go_simp; (try go_bits); all_goals (go_at_call 93; refine (cA _).mono ?_; rintro e w2 ⟨rfl, hb⟩; exact ⟨rfl, hw'.trans (hb.mono (below_le hw' (by simp)))⟩))); go_simp; (try go_bits); refine hK _ ?_; clear hK K) | (refine flow_quiet rfl rfl (fun K hK => ?_); apply Exists.intro; apply And.intro; (focus (intro w' hw'; have hc := (bcell hw').1; go_simp; (try go_bits); all_goals (go_at_call 93; refine (cB _).mono ?_; rintro e w2 ⟨rfl, hb⟩; exact ⟨rfl, hw'.trans (hb.mono (below_le hw' (by simp)))⟩))); go_simp; (try go_bits); refine hK _ ?_; clear hK K) | (refine flow_quiet rfl rfl (fun K hK => ?_); apply Exists.intro; apply And.intro; (focus (intro w' hw'; have hc := (bcell hw').1; go_simp; (try go_bits); all_goals (go_at_call 93; refine (cC _).mono ?_; rintro e w2 ⟨rfl, hb⟩; exact ⟨rfl, hw'.trans (hb.mono (below_le hw' (by simp)))⟩))); go_simp; (try go_bits); refine hK _ ?_; clear hK K)
                  iterate 6 ((refine flow_quiet rfl rfl (fun K hK => ?_); apply Exists.intro; apply And.intro; (focus (intro w' hw'; have hc := (bcell hw').1; go_simp; (try go_bits); all_goals (first | exact rfl | exact ⟨rfl, hw'⟩))); go_simp; (try go_bits); refine hK _ ?_; clear hK K))
                  first | (refine flow_quiet rfl rfl (fun K hK => ?_); apply Exists.intro; apply And.intro; (focus (intro w' hw'; have hc := (bcell hw').1; go_simp; (try go_bits); all_goals (go_at_call 93; with_reducible refine (cA _).mono ?_; rintro e w2 ⟨rfl, hb⟩; exact ⟨rfl, hw'.trans (hb.mono (below_le hw' (by simp)))⟩))); go_simp; (try go_bits); refine hK _ ?_; clear hK K) | (refine flow_quiet rfl rfl (fun K hK => ?_); apply Exists.intro; apply And.intro; (focus (intro w' hw'; have hc := (bcell hw').1; go_simp; (try go_bits); all_goals (go_at_call 93; with_reducible refine (cB _).mono ?_; rintro e w2 ⟨rfl, hb⟩; exact ⟨rfl, hw'.trans (hb.mono (below_le hw' (by simp)))⟩))); go_simp; (try go_bits); refine hK _ ?_; clear hK K) | (refine flow_quiet rfl rfl (fun K hK => ?_); apply Exists.intro; apply And.intro; (focus (intro w' hw'; have hc := (bcell hw').1; go_simp; (try go_bits); all_goals (go_at_call 93; with_reducible refine (cC _).mono ?_; rintro e w2 ⟨rfl, hb⟩; exact ⟨rfl, hw'.trans (hb.mono (below_le hw' (by simp)))⟩))); go_simp; (try go_bits); refine hK _ ?_; clear hK K) | (refine flow_quiet rfl rfl (fun K hK => ?_); apply Exists.intro; apply And.intro; (focus (intro w' hw'; have hc := (bcell hw').1; go_simp; (try go_bits); all_goals (go_at_call 93; refine (cA _).mono ?_; rintro e w2 ⟨rfl, hb⟩; exact ⟨rfl, hw'.trans (hb.mono (below_le hw' (by simp)))⟩))); go_simp; (try go_bits); refine hK _ ?_; clear hK K) | (refine flow_quiet rfl rfl (fun K hK => ?_); apply Exists.intro; apply And.intro; (focus (intro w' hw'; have hc := (bcell hw').1; go_simp; (try go_bits); all_goals (go_at_call 93; refine (cB _).mono ?_; rintro e w2 ⟨rfl, hb⟩; exact ⟨rfl, hw'.trans (hb.mono (below_le hw' (by simp)))⟩))); go_simp; (try go_bits); refine hK _ ?_; clear hK K) | (refine flow_quiet rfl rfl (fun K hK => ?_); apply Exists.intro; apply And.intro; (focus (intro w' hw'; have hc := (bcell hw').1; go_simp; (try go_bits); all_goals (go_at_call 93; refine (cC _).mono ?_; rintro e w2 ⟨rfl, hb⟩; exact ⟨rfl, hw'.trans (hb.mono (below_le hw' (by simp)))⟩))); go_simp; (try go_bits); refine hK _ ?_; clear hK K)
                  iterate 5 ((refine flow_quiet rfl rfl (fun K hK => ?_); apply Exists.intro; apply And.intro; (focus (intro w' hw'; have hc := (bcell hw').1; go_simp; (try go_bits); all_goals (first | exact rfl | exact ⟨rfl, hw'⟩))); go_simp; (try go_bits); refine hK _ ?_; clear hK K))
                  (refine flow_eff rfl rfl (fun K hK => ?_); apply Exists.intro; apply Exists.intro; apply And.intro; (focus (intro w' hw'; have hc := (bcell hw').1; have hf := (bcell hw').2; go_simp; (try go_bits); refine ⟨rfl, ?_⟩; (repeat apply below_store); exact hw')); go_simp; (try go_bits); refine hK _ _ ?_; clear hK K)
                  refine flow_nil ?_
                  intro w' hw'
                  go_wp2
                  go_roundw
                  case rel =>
                    refine ⟨y + 1, by omega, by go_num, (hro.store.to hsu).below hw' (by omega), (hrb.set (by omega)).below hw' (by omega), (hres.set (by omega)).below hw' (by omega), ?_⟩
                    exact (hbel.setCell (by first | omega | (simp; omega)) _).trans (hw'.mono (by omega))
                  case measure => simp [intOf]; omega
                · have hmf : decide ((y : Int) < 5) = false := by simp; omega
                  obtain rfl : y = 5 := by omega
                  go_wp2
                  go_roundw
                  case rel => exact ⟨x + 1, by omega, by go_num, hro, hrb, hres, hbel⟩
                  case measure => simp [intOf]; omega
            · have hmf : decide ((x : Int) < 5) = false := by simp; omega
              replace hro := hro.to (show ∀ j, j < 25 → chiG H (5 * x) j = chiF H j by rw [show x = 5 by omega]; exact chiG_all _)
              clear h5 hx hrb
              have co := hro.cellAt (j := 0) (by omega)
              have fo := hro.free
              have hlo := hro.lt
              have z1 : w.heap.size + 1 + 1 < wr.heap.size := by omega
              have cK := fun W => ref_constant i hi W
              have hx1 := u64_xorN (chiF_lt hF3 0) (rc_lt i hi)
              go_wp2
              refine wp_flow (fun k => ([1, 1, 1, 1, 1, 1, 2] : List Nat).getD k 1) (Below (wr.heap.size)) _ (Below.drew (Below.refl _ _)) (by kernel_rfl) (by kernel_rfl) ?_
              iterate 3 ((refine flow_quiet rfl rfl (fun K hK => ?_); apply Exists.intro; apply And.intro; (focus (intro w' hw'; have hc := (bcell hw').1; go_simp; (try go_bits); all_goals (first | exact rfl | exact ⟨rfl, hw'⟩))); go_simp; (try go_bits); refine hK _ ?_; clear hK K))
              first | (refine flow_quiet rfl rfl (fun K hK => ?_); apply Exists.intro; apply And.intro; (focus (intro w' hw'; have hc := (bcell hw').1; go_simp; (try go_bits); all_goals (go_at_call 95; with_reducible refine (cK _).mono ?_; rintro e w2 ⟨rfl, hb⟩; exact ⟨rfl, hw'.trans (hb.mono (below_le hw' (by simp)))⟩))); go_simp; (try go_bits); refine hK _ ?_; clear hK K) | (refine flow_quiet rfl rfl (fun K hK => ?_); apply Exists.intro; apply And.intro; (focus (intro w' hw'; have hc := (bcell hw').1; go_simp; (try go_bits); all_goals (go_at_call 95; refine (cK _).mono ?_; rintro e w2 ⟨rfl, hb⟩; exact ⟨rfl, hw'.trans (hb.mono (below_le hw' (by simp)))⟩))); go_simp; (try go_bits); refine hK _ ?_; clear hK K)
              iterate 2 ((refine flow_quiet rfl rfl (fun K hK => ?_); apply Exists.intro; apply And.intro; (focus (intro w' hw'; have hc := (bcell hw').1; go_simp; (try go_bits); all_goals (first | exact rfl | exact ⟨rfl, hw'⟩))); go_simp; (try go_bits); refine hK _ ?_; clear hK K))
              (refine flow_eff rfl rfl (fun K hK => ?_); apply Exists.intro; apply Exists.intro; apply And.intro; (focus (intro w' hw'; have hc := (bcell hw').1; have hf := (bcell hw').2; go_simp; (try go_bits); refine ⟨rfl, ?_⟩; (repeat apply below_store); exact hw')); go_simp; (try go_bits); refine hK _ _ ?_; clear hK K)
              refine flow_nil ?_
              intro w' hw'
              have hro2 := ((hro.store (j := 0) (b := chiF H 0 ^^^ rcF i)).to fun j _ => hend.out j).below hw' hlo
              have hres2 := (hres.set (p := o0) (j := 0) (v := .int .u64 ((chiF H 0 ^^^ rcF i : Nat) : Int)) (by omega)).below hw' z1
              have hbel2 := (hbel.setCell (by first | omega | (simp; omega)) _).trans (hw'.mono (show w.heap.size ≤ _ by omega))
              clear hro hres hbel hw'
              generalize hR : rndF i f = R at hro2
              replace hR := Lib.hid hR
              have hg : w'.heap[o0]? = some (.cells (numA .u64 25 R) 139 (0, 0)) := hro2
              have hs0 : (Tryd.prog.info? 139).map (·.size) = some (numA .u64 25 R).size := by rw [numA_size]; exact info25s
              have hst := hres2.storeA (P := Tryd.prog) R
              have hres' := hres2.setRow R
              have hbz : (numA .u64 25 R).size = 25 := numA_size _
              go_wp2_with (with_reducible refine wpList_load_row rfl 139 (.tmp 14) rfl _ rfl _ _ _ _ hg under25s rfl hs0 ?_)
              refine bodyPost_ret (results_cell_row (p := 6) (ty := 139) (fn := Tryd.f90) (by kernel_rfl) _ _ (w.heap.size + 1 + 1) _ _ (0, 0) _ rfl hres' under25s rfl hs0) rfl ⟨by rw [hR.out], ?_⟩
              repeat (with_reducible first | exact Below.refl _ _ | assumption | refine below_drewN ?_ _ | refine Below.drew ?_ | refine below_setRow' ?_ (by first | omega | (simp; done) | (simp; omega)) _ | refine Below.setCell ?_ (by first | omega | (simp; done) | (simp; omega)) _ | refine Below.alloc ?_ (by first | omega | (simp; done) | (simp; omega)) _ | refine Below.trans ?_ (Below.mono (by assumption) (by first | omega | (simp; done) | (simp; omega))))
end Go.Proofs.YtcdjdnbdblpofaaDoor

/- The contract of the document's Sum. Conditions: the text is not too long. -/
namespace Go.Proofs.YtcdjdnbdblpofaaDoor
open Go.RowKit
attribute [local go_sem] leftBy
set_option linter.unusedSimpArgs false
set_option linter.unusedVariables false


/-- How long a slice is. -/
def lenW : Value → Nat
  | .slice _ n _ => n
  | _ => 0
theorem byte_outR (f : Nat → Nat) (i : Nat) : ((f (i / 8) : Nat) : Int) / 2 ^ (8 * (i % 8)) % 256 = ((outF f i : Nat) : Int) := byte_bits

theorem store_new (W : World) (g : Nat → Nat) (t : TypeId) : (storeCells ⟨W.heap.size, 0, none⟩ (numA .i64 25 g).toList 0).run Tryd.prog (W.alloc (.cells #[.int .i64 0, .int .i64 0, .int .i64 0, .int .i64 0, .int .i64 0, .int .i64 0, .int .i64 0, .int .i64 0, .int .i64 0, .int .i64 0, .int .i64 0, .int .i64 0, .int .i64 0, .int .i64 0, .int .i64 0, .int .i64 0, .int .i64 0, .int .i64 0, .int .i64 0, .int .i64 0, .int .i64 0, .int .i64 0, .int .i64 0, .int .i64 0, .int .i64 0] t (0, 0))) = .ok () (W.alloc (.cells (numA .i64 25 g) t (0, 0))) := by
  rw [← numA25]
  exact (rowN.storeA (κ := .i64) (m := 25) (t := t) (f := fun _ => 0) g (rowN.new rfl)).trans (congrArg _ (World.setRow_alloc_new W _ _ _))

attribute [local irreducible] padA padN padF stF takeB rnds rndF outF outN strF digS numA byteAt rotF

set_option maxRecDepth 100000 in
set_option maxHeartbeats 8000000 in
/-- The document's Sum. -/
theorem ref_Sum (s : ByteArray) (hs : s.size ≤ 200000) (w : World) :
    Calls Tryd.prog 86 #[.string s] w fun e w' => e = .returned (.string (digS s)) ∧ Below w.heap.size w w' := by
  have hm1 : s.size ≤ maxLen := by unfold maxLen; omega
  go_enter Tryd.func86, Tryd.ntmps86
  go_wp2_with (first
    | (refine wpList_bytes rfl (.tmp 11) rfl rfl hm1 ?_; intro v0 w0 hown0 hb0; have hb0s := hb0.size)
    | (at_builtin; refine wpList_append_byte rfl (.tmp 12) (.tmp 13) rfl rfl (hown0.alloc _) w0.heap.size 1 rfl (by simp) (by omega) (by first | omega | (simp; omega)) ?_; intro v1 w1 hown1 hgrow1))
  replace hown1' := hown1.to fun j hj => padA_one s j hj
  have hbel1 := grown_below (hown0.alloc _) (hb0.alloc hb0s _) (Nat.le_refl _) hgrow1
  clear hown1 hgrow1 hown0 hm1 hb0
  go_loopw [3] (fun v wr => ∃ n : Nat, s.size < n ∧ n ≤ 136 * padN s ∧ ownB wr w.heap.size v n (padA s) ∧ Below w.heap.size w wr)
    (fun v _ => 136 * padN s - lenW v)
  case atStart => exact ⟨s.size + 1, by omega, by unfold padN; omega, hown1', hbel1⟩
  case round =>
    obtain ⟨n, hn1, hn2, hown, hbel⟩ := hrel
    obtain ⟨g, cap, rfl, hBg, hgw, hnc, hcm, hrow, hfz, hst⟩ := hown.parts (by omega)
    have hN : 136 * padN s ≤ 200136 := by unfold padN; omega
    have hBs := hbel.size
    by_cases h136 : n % 136 = 0
    · have hi0 : ((n : Nat) : Int) % 136 = 0 := by omega
      have hnN : n = 136 * padN s := by unfold padN at hn2 ⊢; omega
      have co := hrow.cellAt (j := n - 1) (by omega)
      have hfz1 := hfz (n - 1) (by omega)
      have hx1 := u8_xor128 (padA_lt s (n - 1))
      have hrow2 : rowB (wr.setCell ⟨g, n - 1, none⟩ (.int .u8 ((padA s (n - 1) ^^^ 128 : Nat) : Int))) g (136 * padN s) (padF s) := by
        rw [← hnN]
        refine (hst (n - 1) _ (by omega)).to fun k _ => ?_
        unfold padF
        rw [← hnN]
      have hbel2 := hbel.setCell (p := ⟨g, n - 1, none⟩) (show w.heap.size ≤ g by omega) (.int .u8 ((padA s (n - 1) ^^^ 128 : Nat) : Int))
      have hNn : 0 < padN s := by unfold padN; omega
      replace hnN := Lib.hid hnN
      replace hrow2 := Lib.hid hrow2
      replace hbel2 := Lib.hid hbel2
      clear hst hrow hown hfz hbel hown1'
      go_wp2_with (go_at_call 89; refine (ref_turns _).mono ?_; rintro e wt ⟨rfl, hb_wt⟩; have hbz : (numA .i64 25 rotF).size = 25 := numA_size _; have hsn := store_new wt rotF 137)
      rw [← numA25]
      have hts := hb_wt.size
      have hrow3 := hrow2.out.below hb_wt (by simp; omega)
      have hbel3 := hbel2.out.trans (hb_wt.mono (by simp; omega))
      have hgt : g < wt.heap.size := hrow3.lt
      have hwt := hbel3.size
      clear hsn hrow2 hbel2 hb_wt hts co hfz1 hx1 hi0 h136 hbz
      generalize ht0 : wt.heap.size = r0 at hgt hwt ⊢
      replace ht0 := Lib.hid ht0
      generalize hNe : padN s = N at *
      replace hNe := Lib.hid hNe
      go_loopw [6] (fun v wr => ∃ q o : Nat, q ≤ N ∧ o = 136 * q ∧ v = .int .i64 (o : Nat) ∧ rowN .u64 25 139 wr (r0 + 1) (stF s q) ∧ rowN .i64 25 137 wr r0 rotF ∧ rowB wr g (136 * N) (padF s) ∧ Below w.heap.size w wr)
        (fun v _ => 136 * N - (intOf v).toNat)
      case atStart =>
        refine ⟨0, 0, by omega, by omega, rfl, ?_, (rowN.new ht0.out.symm).alloc _, (hrow3.alloc _).alloc _, ?_⟩
        · rw [st_zero]
          exact rowN.new (by simp [ht0.out])
        · have hwt2 := ht0.out
          repeat (with_reducible first | exact Below.refl _ _ | assumption | refine below_drewN ?_ _ | refine Below.drew ?_ | refine below_setRow' ?_ (by first | omega | (simp; done) | (simp; omega)) _ | refine Below.setCell ?_ (by first | omega | (simp; done) | (simp; omega)) _ | refine Below.alloc ?_ (by first | omega | (simp; done) | (simp; omega)) _ | refine Below.trans ?_ (Below.mono (by assumption) (by first | omega | (simp; done) | (simp; omega))))
      case round =>
        obtain ⟨q, o, hq, ho, rfl, hra, hrr, hrb, hbel⟩ := hrel
        replace ho := Lib.hid ho
        by_cases hqN : q < N
        · have hqn : (o : Int) < (n : Int) := by have := hnN.out; have := ho.out; omega
          have hF := st_lt s q
          have hb := fun i => padF_lt s (136 * q + i)
          have hst := Lib.hid (st_succ s q)
          generalize stF s q = F at *
          have hqi : (o : Int) + 136 ≤ (n : Int) := by have := hnN.out; have := ho.out; omega
          have hq9 : (o : Int) + 136 ≤ 200136 := by have := hnN.out; omega
          go_wp2
          go_loopw [7] (fun v wr => ∃ i : Nat, i ≤ 136 ∧ v = .int .i64 i ∧ rowN .u64 25 139 wr (r0 + 1) (takeB F (fun i => padF s (136 * q + i)) i) ∧ rowN .i64 25 137 wr r0 rotF ∧ rowB wr g (136 * N) (padF s) ∧ Below w.heap.size w wr)
            (fun v _ => 136 - (intOf v).toNat)
          case atStart => exact ⟨0, by omega, rfl, by rw [takeB_zero]; exact hra, hrr, hrb, hbel⟩
          case round =>
            obtain ⟨i, hi, rfl, hra, hrr, hrb, hbel⟩ := hrel
            by_cases h136 : i < 136
            · have h136i : (i : Int) < 136 := by omega
              have hi1 : 0 ≤ (i : Int) / 8 := by omega
              have hi2 : (i : Int) / 8 < 25 := by omega
              have hi3 : ((i : Int) / 8).toNat = i / 8 := by omega
              have hi4 : 0 ≤ 8 * ((i : Int) % 8) := by omega
              have hi5 : 8 * ((i : Int) % 8) < 64 := by omega
              have hi6 : (8 * ((i : Int) % 8)).toNat = 8 * (i % 8) := by omega
              have hi7 : 0 ≤ (o : Int) + (i : Int) := by omega
              have hi8 : (o : Int) + (i : Int) < (n : Int) := by omega
              have hi9 : ((o : Int) + (i : Int)).toNat = o + i := by omega
              have ca := hra.cellAt (j := i / 8) (by omega)
              have fa := hra.free
              have cb := hrb.cellAt (j := o + i) (by have := hnN.out; omega)
              have hbi : padF s (o + i) < 256 := padF_lt s _
              have hx := take_bits (i := i) (takeB_lt hF hb i (i / 8)) hbi
              have htk := Lib.hid (takeB_succ F (fun i => padF s (136 * q + i)) i)
              go_wp2
              first | refine wp_flow (fun k => ([1, 1, 1, 1, 1, 1, 1, 1, 1, 1, 1, 1, 1, 1, 1, 1, 1, 1, 1, 2] : List Nat).getD k 1) Dr _ (Dr.next _ _) (by kernel_rfl) (by kernel_rfl) ?_ | refine wp_flow (fun k => ([1, 1, 1, 1, 1, 1, 1, 1, 1, 1, 1, 1, 1, 1, 1, 1, 1, 1, 1, 2] : List Nat).getD k 1) Dr _ (Dr.one _) (by kernel_rfl) (by kernel_rfl) ?_
              iterate 19 ((refine flow_quiet rfl rfl (fun K hK => ?_); apply Exists.intro; apply And.intro; (focus (rintro w' ⟨nn, rfl⟩; go_simp; (try go_bits); exact ⟨rfl, Dr.of _ _⟩)); go_simp; (try go_bits); refine hK _ ?_; clear hK K))
              (refine flow_eff rfl rfl (fun K hK => ?_); apply Exists.intro; apply Exists.intro; apply And.intro; (focus (rintro w' ⟨nn, rfl⟩; go_simp; (try go_bits); refine ⟨rfl, ?_⟩; with_reducible first | exact Dr.store _ _ _ _ | exact Dr.store4 _ _ _ _ _ _ _ _ _ _)); go_simp; (try go_bits); refine hK _ _ ?_; clear hK K)
              refine flow_nil ?_
              rintro w' ⟨nq, rfl⟩
              go_wp2
              go_roundw
              case rel =>
                refine ⟨i + 1, by omega, by go_num, ?_, (hrr.set (by omega)).drewN _, (hrb.set (by omega)).drewN _, ?_⟩
                · rw [htk.out]
                  refine (hra.store.drewN _).to fun j _ => ?_
                  rw [ho.out]
                · skip
                  repeat (with_reducible first | exact Below.refl _ _ | assumption | refine below_drewN ?_ _ | refine Below.drew ?_ | refine below_setRow' ?_ (by first | omega | (simp; done) | (simp; omega)) _ | refine Below.setCell ?_ (by first | omega | (simp; done) | (simp; omega)) _ | refine Below.alloc ?_ (by first | omega | (simp; done) | (simp; omega)) _ | refine Below.trans ?_ (Below.mono (by assumption) (by first | omega | (simp; done) | (simp; omega))))
              case measure => simp [intOf]; omega
            · have hmf : decide ((i : Int) < 136) = false := by simp; omega
              rw [show i = 136 by omega] at hra
              clear h136 hi
              have hF2 := takeB_lt hF hb 136
              generalize takeB F (fun i => padF s (136 * q + i)) 136 = T at *
              go_wp2
              go_loopw [8] (fun v wr => ∃ k : Nat, k ≤ 24 ∧ v = .int .i64 k ∧ rowN .u64 25 139 wr (r0 + 1) (rnds T k) ∧ rowN .i64 25 137 wr r0 rotF ∧ rowB wr g (136 * N) (padF s) ∧ Below w.heap.size w wr)
                (fun v _ => 24 - (intOf v).toNat)
              case atStart => exact ⟨0, by omega, rfl, by rw [rnds_zero]; exact hra, hrr, hrb, hbel⟩
              case round =>
                obtain ⟨k, hk, rfl, hra, hrr, hrb, hbel⟩ := hrel
                by_cases h24 : k < 24
                · have h24i : (k : Int) < 24 := by omega
                  have hR := rnds_lt hF2 k
                  have hrs := Lib.hid (rnds_succ T k)
                  generalize rnds T k = R at *
                  have hla := hra.lt
                  have hlr := hrr.lt
                  have hlb := hrb.lt
                  have hga : wr.heap[r0 + 1]? = some (.cells (numA .u64 25 R) 139 (0, 0)) := hra
                  have hgr : wr.heap[r0]? = some (.cells (numA .i64 25 rotF) 137 (0, 0)) := hrr
                  have hsa : (Tryd.prog.info? 139).map (·.size) = some (numA .u64 25 R).size := by rw [numA_size]; exact info25s
                  have hsr : (Tryd.prog.info? 137).map (·.size) = some (numA .i64 25 rotF).size := by rw [numA_size]; exact info25i
                  have cR := fun W => ref_round R hR k h24 W
                  go_wp2_with (first
                    | (with_reducible refine wpList_load_row rfl 139 (.tmp 5) rfl _ rfl _ _ _ _ hga under25s rfl hsa ?_)
                    | (with_reducible refine wpList_load_row rfl 137 (.tmp 4) rfl _ rfl _ _ _ _ hgr under25i rfl hsr ?_)
                    | (go_at_call 90; refine (cR _).mono ?_; rintro e wq ⟨rfl, hb_wq⟩; have hbz : (numA .u64 25 (rndF k R)).size = 25 := numA_size _; have hst2 := (hra.below hb_wq hla).storeA (P := Tryd.prog) (rndF k R)))
                  go_roundw
                  case rel =>
                    refine ⟨k + 1, by omega, by go_num, ?_, (hrr.below hb_wq hlr).setRow_ne (by omega), (hrb.below hb_wq hlb).setRow_ne (by omega), below_setRow' (hbel.trans (hb_wq.mono hbel.size)) (by omega) _⟩
                    rw [hrs.out]
                    exact (hra.below hb_wq hla).setRow _
                  case measure => simp [intOf]; omega
                · have hmf : decide ((k : Int) < 24) = false := by simp; omega
                  obtain rfl : k = 24 := by omega
                  go_wp2
                  go_roundw
                  case rel => exact ⟨q + 1, o + 136, by omega, by have := ho.out; omega, by go_num, by rw [hst.out]; exact hra, hrr, hrb, hbel⟩
                  case measure => simp [intOf]; omega
        · have hmf : decide ((o : Int) < (n : Int)) = false := by have := hnN.out; have := ho.out; simp; omega
          have hmf2 : decide (o < n) = false := by have := hnN.out; have := ho.out; simp; omega
          have hqe : q = N := by omega
          rw [hqe] at hra
          clear hqN hq hrr hrb
          have hRL := st_lt s N
          have hla := hra.lt
          generalize hR : stF s N = R at hra hRL
          replace hR := Lib.hid hR
          have hbs := hbel.size
          go_wp2
          generalize hb2 : wr.heap.size = b2 at hla hbs ⊢
          replace hb2 := Lib.hid hb2
          go_loopw [9, 10] (fun v x wr => ∃ i : Nat, i ≤ 32 ∧ x = .int .i64 i ∧ ownB wr b2 v i (outF R) ∧ b2 ≤ wr.heap.size ∧ rowN .u64 25 139 wr (r0 + 1) R ∧ Below w.heap.size w wr)
            (fun _ x _ => 32 - (intOf x).toNat)
          case atStart => exact ⟨0, by omega, rfl, ownB_nil _ _ _, by have := hb2.out; omega, hra, hbel⟩
          case round =>
            obtain ⟨i, hi, rfl, hown, hb2s, hra, hbel⟩ := hrel
            have hlr := hra.lt
            by_cases h32 : i < 32
            · have h32i : (i : Int) < 32 := by omega
              have hi1 : 0 ≤ (i : Int) / 8 := by omega
              have hi2 : (i : Int) / 8 < 25 := by omega
              have hi3 : ((i : Int) / 8).toNat = i / 8 := by omega
              have hi4 : 0 ≤ 8 * ((i : Int) % 8) := by omega
              have hi5 : 8 * ((i : Int) % 8) < 64 := by omega
              have hi6 : (8 * ((i : Int) % 8)).toNat = 8 * (i % 8) := by omega
              have ca := hra.cellAt (j := i / 8) (by omega)
              have hbb : ((R (i / 8) : Nat) : Int) / 2 ^ (8 * (i % 8)) % 256 = ((outF R i : Nat) : Int) := byte_outR R i
              go_wp2_with (at_builtin; refine wpList_append_byte rfl (.tmp 76) (.tmp 86) rfl rfl (hown.alloc _) wr.heap.size (outF R i) rfl (by simp) (by omega) (by first | omega | (simp; omega)) ?_; intro v' w2 hown' hgrow)
              have hown2 := hown'.to (f' := outF R) fun j _ => by
                by_cases e : j = i
                · rw [if_pos e, e]
                · rw [if_neg e]
              have hbel2 := grown_below (hown.alloc _) (hbel.alloc hbel.size _) hbs hgrow
              have hb2s2 : b2 ≤ w2.heap.size := by have := hgrow.size; simp at this; omega
              have hra2 : rowN .u64 25 139 w2 (r0 + 1) R := (hgrow.block (r0 + 1) (by simp; omega) (fun e => by have := (hown.lt (r0 + 1) e.symm).1; omega)).trans (hra.alloc _)
              clear hown' hgrow
              go_wp2
              go_roundw
              case rel => exact ⟨i + 1, by omega, by go_num, hown2, hb2s2, hra2, hbel2⟩
              case measure => simp [intOf]; omega
            · have hmf : decide ((i : Int) < 32) = false := by simp; omega
              obtain rfl : i = 32 := by omega
              obtain ⟨g2, cap2, rfl, _, _, _, _, hro, _, _⟩ := hown.parts (by omega)
              have hcv := string_of (cap := cap2) fun j hj => hro.cellAt hj
              clear hown hro
              go_wp2
              go_ret
              refine ⟨by unfold digS; rw [hNe.out, hR.out]; rfl, ?_⟩
              repeat (with_reducible first | exact Below.refl _ _ | assumption | refine below_drewN ?_ _ | refine Below.drew ?_ | refine below_setRow' ?_ (by first | omega | (simp; done) | (simp; omega)) _ | refine Below.setCell ?_ (by first | omega | (simp; done) | (simp; omega)) _ | refine Below.alloc ?_ (by first | omega | (simp; done) | (simp; omega)) _ | refine Below.trans ?_ (Below.mono (by assumption) (by first | omega | (simp; done) | (simp; omega))))
    · have hi0 : ¬ ((n : Nat) : Int) % 136 = 0 := by omega
      go_wp2_with (at_builtin; refine wpList_append_byte rfl (.tmp 19) (.tmp 20) rfl rfl (hown.alloc _) wr.heap.size 0 rfl (by simp) (by omega) (by first | omega | (simp; omega)) ?_; intro v' w2 hown' hgrow)
      have hown2 := hown'.to fun j _ => padA_more s hn1 j
      have hbel2 := grown_below (hown.alloc _) (hbel.alloc hbel.size _) (Nat.le_refl _) hgrow
      clear hown' hgrow hst hrow hfz
      go_wp2
      go_roundw
      case rel => exact ⟨n + 1, by omega, by unfold padN at hn2 ⊢; omega, hown2, hbel2⟩
      case measure =>
        obtain ⟨g', cap', rfl, _⟩ := hown2.parts (by omega)
        simp only [lenW]
        omega
end Go.Proofs.YtcdjdnbdblpofaaDoor
