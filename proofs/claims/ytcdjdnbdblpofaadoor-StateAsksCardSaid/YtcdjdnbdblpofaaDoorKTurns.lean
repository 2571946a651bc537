/-
  The contract of the document's turns. Conditions: none.
-/
import Derived.Test.YtcdjdnbdblpofaaDoorKSpec
import Derived.Test.YtcdjdnbdblpofaaDoorKLeaf
import Derived.Lib.Hide
namespace Go.Proofs.YtcdjdnbdblpofaaDoor
open Go.RowKit
attribute [local go_sem] leftBy
set_option linter.unusedSimpArgs false
set_option linter.unusedVariables false


/-- The lane at a step; at which step a lane's turn is told. -/
def laneT (t : Nat) : Nat := if t = 0 then 1 else placesF (t - 1)
def tposF (j : Nat) : Nat := if j = 1 then 0 else posF j + 1
def turnsN (n : Nat) : Nat → Nat := fun j => if tposF j < n then rotF j else 0
theorem turnsN_zero (j : Nat) : 0 = turnsN 0 j := by unfold turnsN; rw [if_neg (by omega)]
theorem turnsN_succ : ∀ n, n < 24 → ∀ j, j < 25 → (if j = laneT n then (n + 1) * (n + 2) / 2 % 64 else turnsN n j) = turnsN (n + 1) j := by decide +kernel
theorem turnsN_all : ∀ j, j < 25 → turnsN 24 j = rotF j := by decide +kernel
theorem lane_lt : ∀ n, n < 25 → laneT n < 25 := by decide +kernel
theorem lane_next : ∀ n, n < 24 → laneT n / 5 = laneT (n + 1) % 5 ∧ (2 * (laneT n % 5) + 3 * (laneT n / 5)) % 5 = laneT (n + 1) / 5 := by decide +kernel

theorem lane_at {n : Nat} (h : n < 25) : n % 5 % 5 + 5 * (n / 5 % 5) = n := by omega

attribute [local irreducible] laneT turnsN rotF numA

theorem info25i : (Tryd.prog.info? 137).map (·.size) = some 25 := by kernel_rfl
theorem under25i : Tryd.prog.underlying 137 = some (.array 25 3) := by kernel_rfl

set_option maxRecDepth 100000 in
set_option maxHeartbeats 4000000 in
/-- turns. -/
theorem ref_turns (w : World) :
    Calls Tryd.prog 89 #[] w fun e w' => e = .returned (.agg (numA .i64 25 rotF)) ∧ Below w.heap.size w w' := by
  go_enter Tryd.func89, Tryd.ntmps89
  go_wp2
  rw [← numA25]
  go_loopw [2, 3, 4] (fun x y n wr => ∃ k : Nat, k ≤ 24 ∧ n = .int .i64 k ∧ x = .int .i64 (laneT k % 5 : Nat) ∧ y = .int .i64 (laneT k / 5 : Nat) ∧ rowN .i64 25 137 wr (w.heap.size + 1) (turnsN k) ∧ rowN .i64 25 137 wr w.heap.size (fun _ => 0) ∧ Below w.heap.size w wr)
    (fun _ _ n _ => 24 - (intOf n).toNat)
  case atStart =>
    refine ⟨0, by omega, rfl, by rw [show laneT 0 % 5 = 1 by decide +kernel]; rfl, by rw [show laneT 0 / 5 = 0 by decide +kernel]; rfl, (rowN.new (by simp)).to fun j _ => turnsN_zero j, (rowN.new rfl).alloc _, ?_⟩
    repeat (with_reducible first | exact Below.refl _ _ | assumption | refine below_drewN ?_ _ | refine Below.drew ?_ | refine below_setRow' ?_ (by first | omega | (simp; done) | (simp; omega)) _ | refine Below.setCell ?_ (by first | omega | (simp; done) | (simp; omega)) _ | refine Below.alloc ?_ (by first | omega | (simp; done) | (simp; omega)) _ | refine Below.trans ?_ (Below.mono (by assumption) (by first | omega | (simp; done) | (simp; omega))))
  case round =>
    obtain ⟨k, hk, rfl, rfl, rfl, hrow, hres, hbel⟩ := hrel
    have hlt := hrow.lt
    by_cases h24 : k < 24
    · have h24i : (k : Int) < 24 := by omega
      obtain ⟨hl1, hl2⟩ := lane_next k h24
      have hll := lane_lt k (by omega)
      have hsu := turnsN_succ k h24
      have cA : ∀ W, Calls Tryd.prog 93 #[.int .i64 (laneT k % 5 : Nat), .int .i64 (laneT k / 5 : Nat)] W fun e w' => e = .returned (.int .i64 (laneT k : Nat)) ∧ w' = W := fun W => by
        have := ref_at0 (laneT k % 5) (laneT k / 5) (by omega) (by omega) W
        rwa [lane_at hll] at this
      have hX5 : laneT k % 5 < 5 := by omega
      have hY5 : laneT k / 5 < 5 := by omega
      have hlf := hrow.free
      have ct := hrow.cellAt hll
      have hp1 : (k + 1) * (k + 2) ≤ 24 * 25 := Nat.mul_le_mul (by omega) (by omega)
      have hp : ((k : Int) + 1) * ((k : Int) + 2) = (((k + 1) * (k + 2) : Nat) : Int) := by push_cast; rfl
      generalize (k + 1) * (k + 2) = P at *
      have hLi : ((laneT k : Nat) : Int) < 25 := by omega
      generalize hX : laneT k % 5 = X at *
      generalize hY : laneT k / 5 = Y at *
      generalize laneT k = L at *
      replace hX := Lib.hid hX
      replace hY := Lib.hid hY
      replace hl1 := Lib.hid hl1
      replace hl2 := Lib.hid hl2
      have hYi : ((Y : Nat) : Int) < 5 := by omega
      have hXi : ((X : Nat) : Int) < 5 := by omega
      go_wp2_with (go_at_call 93; refine (cA _).mono ?_; rintro e wx ⟨rfl, rfl⟩)
      go_roundw
      case rel =>
        refine ⟨k + 1, by omega, by go_num, by rw [← hl1.out], by rw [← hl2.out]; go_num, ?_, hres.set (by omega), ?_⟩
        · exact hrow.store.to hsu
        repeat (with_reducible first | exact Below.refl _ _ | assumption | refine below_drewN ?_ _ | refine Below.drew ?_ | refine below_setRow' ?_ (by first | omega | (simp; done) | (simp; omega)) _ | refine Below.setCell ?_ (by first | omega | (simp; done) | (simp; omega)) _ | refine Below.alloc ?_ (by first | omega | (simp; done) | (simp; omega)) _ | refine Below.trans ?_ (Below.mono (by assumption) (by first | omega | (simp; done) | (simp; omega))))
      case measure => simp [intOf]; omega
    · have hmf : decide ((k : Int) < 24) = false := by simp; omega
      replace hrow := hrow.to (show ∀ j, j < 25 → turnsN k j = rotF j by rw [show k = 24 by omega]; exact turnsN_all)
      clear h24 hk
      obtain hg := show wr.heap[w.heap.size + 1]? = some (.cells (numA .i64 25 rotF) 137 (0, 0)) from hrow
      have hs0 : (Tryd.prog.info? 137).map (·.size) = some (numA .i64 25 rotF).size := by rw [numA_size]; exact info25i
      have hst := hres.storeA (P := Tryd.prog) rotF
      have hres' := hres.setRow rotF
      have hbz : (numA .i64 25 rotF).size = 25 := numA_size _
      go_wp2_with (with_reducible refine wpList_load_row rfl 137 (.tmp 1) rfl _ rfl _ _ _ _ hg under25i rfl hs0 ?_)
      refine bodyPost_ret (results_cell_row (p := 0) (ty := 137) (by simp only [Tryd.results89]) _ _ w.heap.size _ _ (0, 0) _ rfl hres' under25i rfl hs0) rfl ⟨rfl, ?_⟩
      repeat (with_reducible first | exact Below.refl _ _ | assumption | refine below_drewN ?_ _ | refine Below.drew ?_ | refine below_setRow' ?_ (by first | omega | (simp; done) | (simp; omega)) _ | refine Below.setCell ?_ (by first | omega | (simp; done) | (simp; omega)) _ | refine Below.alloc ?_ (by first | omega | (simp; done) | (simp; omega)) _ | refine Below.trans ?_ (Below.mono (by assumption) (by first | omega | (simp; done) | (simp; omega))))
end Go.Proofs.YtcdjdnbdblpofaaDoor
