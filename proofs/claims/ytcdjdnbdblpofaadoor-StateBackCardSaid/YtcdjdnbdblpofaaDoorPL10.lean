/-
  Texts of one proof, one behind the other. Conditions: each text's own line says them.
-/
import Derived.Test.YtcdjdnbdblpofaaDoorPL7
import Derived.Lib.Hide

/- The contracts of the document's small functions of Keccak: turns, constant. Conditions: none. -/
namespace Go.Proofs.YtcdjdnbdblpofaaDoor
open Go.RowKit
attribute [local go_sem] leftBy
set_option linter.unusedSimpArgs false
set_option linter.unusedVariables false


/-- The register of the rounds' constants; a constant's bits so far. -/
def lfF : Nat → Nat
  | 0 => 1
  | n + 1 => if 256 ≤ 2 * lfF n then (2 * lfF n) ^^^ 369 else 2 * lfF n
def ocF (i : Nat) : Nat → Nat
  | 0 => 0
  | n + 1 => if 7 * i ≤ n ∧ lfF n % 2 = 1 then ocF i n ||| 2 ^ (2 ^ (n - 7 * i) - 1) else ocF i n
theorem lf_zero : lfF 0 = 1 := rfl
theorem lf_succ (n : Nat) : lfF (n + 1) = if 256 ≤ 2 * lfF n then (2 * lfF n) ^^^ 369 else 2 * lfF n := rfl
theorem oc_zero (i : Nat) : ocF i 0 = 0 := rfl
theorem oc_succ (i n : Nat) : ocF i (n + 1) = if 7 * i ≤ n ∧ lfF n % 2 = 1 then ocF i n ||| 2 ^ (2 ^ (n - 7 * i) - 1) else ocF i n := rfl
theorem xor369 : ∀ r, r < 512 → 256 ≤ r → r ^^^ 369 < 256 := by decide +kernel
theorem lf_lt : ∀ n, lfF n < 256
  | 0 => by decide
  | n + 1 => by
    have h := lf_lt n
    rw [lf_succ]
    split
    · exact xor369 _ (by omega) (by omega)
    · omega
theorem oc_all : ∀ i, i < 24 → ocF i (7 * i + 7) = rcF i := by decide +kernel
theorem oc_lt {i : Nat} : ∀ n, n ≤ 7 * i + 7 → ocF i n < M64
  | 0, _ => M64_pos
  | n + 1, h => by
    rw [oc_succ]
    split
    · refine or_lt (oc_lt n (by omega)) ?_
      have h1 : 2 ^ (n - 7 * i) ≤ 2 ^ 6 := Nat.pow_le_pow_right (by decide) (by omega)
      rw [M64_pow]
      exact Nat.pow_lt_pow_right (by decide) (by omega)
    · exact oc_lt n (by omega)

attribute [local irreducible] lfF ocF rcF

theorem i64_xorN {a : Nat} (ha : a < 512) : bits .xor .i64 (a : Int) 369 = ((a ^^^ 369 : Nat) : Int) := by
  have h : a ^^^ 369 < 512 := Nat.xor_lt_two_pow (n := 9) ha (by decide)
  show IntKind.i64.wrap ((BitVec.ofInt 64 (a : Int) ^^^ BitVec.ofInt 64 369).toNat : Int) = _
  rw [BitVec.toNat_xor, ofInt_u64 a (by omega), show (BitVec.ofInt 64 369).toNat = 369 by decide]
  exact IntWalk.i64_in _ (by omega)


set_option maxHeartbeats 4000000 in
/-- constant. -/
theorem ref_constant (i : Nat) (hi : i < 24) (w : World) :
    Calls Tryd.prog 95 #[.int .i64 (i : Nat)] w fun e w' => e = .returned (.int .u64 (rcF i : Nat)) ∧ Below w.heap.size w w' := by
  go_enter Tryd.func95, Tryd.ntmps95
  go_wp2
  go_loopw [3, 4, 5] (fun r o n wr => ∃ k : Nat, k ≤ 7 * i + 7 ∧ n = .int .i64 k ∧ r = .int .i64 (lfF k : Nat) ∧ o = .int .u64 (ocF i k : Nat) ∧ wr = w)
    (fun _ _ n _ => 7 * i + 7 - (intOf n).toNat)
  case atStart => exact ⟨0, by omega, rfl, by rw [lf_zero]; rfl, by rw [oc_zero]; rfl, rfl⟩
  case round =>
    obtain ⟨k, hk, rfl, rfl, rfl, rfl⟩ := hrel
    have hlf := lf_lt k
    by_cases h7 : k < 7 * i + 7
    · have h7i : (k : Int) < 7 * (i : Int) + 7 := by omega
      have hx : bits .xor .i64 (2 * ((lfF k : Nat) : Int)) 369 = (((2 * lfF k) ^^^ 369 : Nat) : Int) := by
        have := i64_xorN (a := 2 * lfF k) (by omega)
        push_cast at this ⊢
        exact this
      have hls := Lib.hid (lf_succ k)
      have hos := Lib.hid (oc_succ i k)
      by_cases hodd : lfF k % 2 = 1
      · have hoi : ((lfF k : Nat) : Int) % 2 = 1 := by omega
        by_cases h7k : 7 * i ≤ k
        · obtain ⟨d, hd⟩ : ∃ d, k = 7 * i + d := ⟨k - 7 * i, by omega⟩
          have hdd : d = 0 ∨ d = 1 ∨ d = 2 ∨ d = 3 ∨ d = 4 ∨ d = 5 ∨ d = 6 := by omega
          have hon : ocF i (k + 1) = ocF i k ||| 2 ^ (2 ^ d - 1) := by rw [hos.out, if_pos ⟨h7k, hodd⟩, show k - 7 * i = d by omega]
          have hoc := oc_lt (i := i) k (by omega)
          rcases hdd with rfl | rfl | rfl | rfl | rfl | rfl | rfl
          · have hj : (k : Int) - 7 * (i : Int) = 0 := by omega
            have hor : bits .or .u64 ((ocF i k : Nat) : Int) 1 = ((ocF i (k + 1) : Nat) : Int) := by rw [hon]; exact u64_orN (b := 1) hoc (by decide)
            replace hon := Lib.hid hon
            replace hd := Lib.hid hd
            by_cases hbig : 256 ≤ 2 * lfF k
            · have hbi : 256 ≤ 2 * ((lfF k : Nat) : Int) := by omega
              go_wp2
              go_roundw
              case rel => exact ⟨k + 1, by omega, by go_num, by rw [hls.out, if_pos hbig], by first | rfl | trivial, by first | rfl | trivial⟩
              case measure => simp [intOf]; omega
            · have hbi : decide (256 ≤ 2 * ((lfF k : Nat) : Int)) = false := by simp; omega
              go_wp2
              go_roundw
              case rel => exact ⟨k + 1, by omega, by go_num, by rw [hls.out, if_neg hbig]; go_num, by first | rfl | trivial, by first | rfl | trivial⟩
              case measure => simp [intOf]; omega
          · have hj : (k : Int) - 7 * (i : Int) = 1 := by omega
            have hor : bits .or .u64 ((ocF i k : Nat) : Int) 2 = ((ocF i (k + 1) : Nat) : Int) := by rw [hon]; exact u64_orN (b := 2) hoc (by decide)
            replace hon := Lib.hid hon
            replace hd := Lib.hid hd
            by_cases hbig : 256 ≤ 2 * lfF k
            · have hbi : 256 ≤ 2 * ((lfF k : Nat) : Int) := by omega
              go_wp2
              go_roundw
              case rel => exact ⟨k + 1, by omega, by go_num, by rw [hls.out, if_pos hbig], by first | rfl | trivial, by first | rfl | trivial⟩
              case measure => simp [intOf]; omega
            · have hbi : decide (256 ≤ 2 * ((lfF k : Nat) : Int)) = false := by simp; omega
              go_wp2
              go_roundw
              case rel => exact ⟨k + 1, by omega, by go_num, by rw [hls.out, if_neg hbig]; go_num, by first | rfl | trivial, by first | rfl | trivial⟩
              case measure => simp [intOf]; omega
          · have hj : (k : Int) - 7 * (i : Int) = 2 := by omega
            have hor : bits .or .u64 ((ocF i k : Nat) : Int) 8 = ((ocF i (k + 1) : Nat) : Int) := by rw [hon]; exact u64_orN (b := 8) hoc (by decide)
            replace hon := Lib.hid hon
            replace hd := Lib.hid hd
            by_cases hbig : 256 ≤ 2 * lfF k
            · have hbi : 256 ≤ 2 * ((lfF k : Nat) : Int) := by omega
              go_wp2
              go_roundw
              case rel => exact ⟨k + 1, by omega, by go_num, by rw [hls.out, if_pos hbig], by first | rfl | trivial, by first | rfl | trivial⟩
              case measure => simp [intOf]; omega
            · have hbi : decide (256 ≤ 2 * ((lfF k : Nat) : Int)) = false := by simp; omega
              go_wp2
              go_roundw
              case rel => exact ⟨k + 1, by omega, by go_num, by rw [hls.out, if_neg hbig]; go_num, by first | rfl | trivial, by first | rfl | trivial⟩
              case measure => simp [intOf]; omega
          · have hj : (k : Int) - 7 * (i : Int) = 3 := by omega
            have hor : bits .or .u64 ((ocF i k : Nat) : Int) 128 = ((ocF i (k + 1) : Nat) : Int) := by rw [hon]; exact u64_orN (b := 128) hoc (by decide)
            replace hon := Lib.hid hon
            replace hd := Lib.hid hd
            by_cases hbig : 256 ≤ 2 * lfF k
            · have hbi : 256 ≤ 2 * ((lfF k : Nat) : Int) := by omega
              go_wp2
              go_roundw
              case rel => exact ⟨k + 1, by omega, by go_num, by rw [hls.out, if_pos hbig], by first | rfl | trivial, by first | rfl | trivial⟩
              case measure => simp [intOf]; omega
            · have hbi : decide (256 ≤ 2 * ((lfF k : Nat) : Int)) = false := by simp; omega
              go_wp2
              go_roundw
              case rel => exact ⟨k + 1, by omega, by go_num, by rw [hls.out, if_neg hbig]; go_num, by first | rfl | trivial, by first | rfl | trivial⟩
              case measure => simp [intOf]; omega
          · have hj : (k : Int) - 7 * (i : Int) = 4 := by omega
            have hor : bits .or .u64 ((ocF i k : Nat) : Int) 32768 = ((ocF i (k + 1) : Nat) : Int) := by rw [hon]; exact u64_orN (b := 32768) hoc (by decide)
            replace hon := Lib.hid hon
            replace hd := Lib.hid hd
            by_cases hbig : 256 ≤ 2 * lfF k
            · have hbi : 256 ≤ 2 * ((lfF k : Nat) : Int) := by omega
              go_wp2
              go_roundw
              case rel => exact ⟨k + 1, by omega, by go_num, by rw [hls.out, if_pos hbig], by first | rfl | trivial, by first | rfl | trivial⟩
              case measure => simp [intOf]; omega
            · have hbi : decide (256 ≤ 2 * ((lfF k : Nat) : Int)) = false := by simp; omega
              go_wp2
              go_roundw
              case rel => exact ⟨k + 1, by omega, by go_num, by rw [hls.out, if_neg hbig]; go_num, by first | rfl | trivial, by first | rfl | trivial⟩
              case measure => simp [intOf]; omega
          · have hj : (k : Int) - 7 * (i : Int) = 5 := by omega
            have hor : bits .or .u64 ((ocF i k : Nat) : Int) 2147483648 = ((ocF i (k + 1) : Nat) : Int) := by rw [hon]; exact u64_orN (b := 2147483648) hoc (by decide)
            replace hon := Lib.hid hon
            replace hd := Lib.hid hd
            by_cases hbig : 256 ≤ 2 * lfF k
            · have hbi : 256 ≤ 2 * ((lfF k : Nat) : Int) := by omega
              go_wp2
              go_roundw
              case rel => exact ⟨k + 1, by omega, by go_num, by rw [hls.out, if_pos hbig], by first | rfl | trivial, by first | rfl | trivial⟩
              case measure => simp [intOf]; omega
            · have hbi : decide (256 ≤ 2 * ((lfF k : Nat) : Int)) = false := by simp; omega
              go_wp2
              go_roundw
              case rel => exact ⟨k + 1, by omega, by go_num, by rw [hls.out, if_neg hbig]; go_num, by first | rfl | trivial, by first | rfl | trivial⟩
              case measure => simp [intOf]; omega
          · have hj : (k : Int) - 7 * (i : Int) = 6 := by omega
            have hor : bits .or .u64 ((ocF i k : Nat) : Int) 9223372036854775808 = ((ocF i (k + 1) : Nat) : Int) := by rw [hon]; exact u64_orN (b := 9223372036854775808) hoc (by decide)
            replace hon := Lib.hid hon
            replace hd := Lib.hid hd
            by_cases hbig : 256 ≤ 2 * lfF k
            · have hbi : 256 ≤ 2 * ((lfF k : Nat) : Int) := by omega
              go_wp2
              go_roundw
              case rel => exact ⟨k + 1, by omega, by go_num, by rw [hls.out, if_pos hbig], by first | rfl | trivial, by first | rfl | trivial⟩
              case measure => simp [intOf]; omega
            · have hbi : decide (256 ≤ 2 * ((lfF k : Nat) : Int)) = false := by simp; omega
              go_wp2
              go_roundw
              case rel => exact ⟨k + 1, by omega, by go_num, by rw [hls.out, if_neg hbig]; go_num, by first | rfl | trivial, by first | rfl | trivial⟩
              case measure => simp [intOf]; omega
        · have hjn : decide (0 ≤ (k : Int) - 7 * (i : Int)) = false := by simp; omega
          have hon : ocF i (k + 1) = ocF i k := by rw [hos.out, if_neg (by omega)]
          replace hon := Lib.hid hon.symm
          by_cases hbig : 256 ≤ 2 * lfF k
          · have hbi : 256 ≤ 2 * ((lfF k : Nat) : Int) := by omega
            go_wp2
            go_roundw
            case rel => exact ⟨k + 1, by omega, by go_num, by rw [hls.out, if_pos hbig], by rw [hon.out], by first | rfl | trivial⟩
            case measure => simp [intOf]; omega
          · have hbi : decide (256 ≤ 2 * ((lfF k : Nat) : Int)) = false := by simp; omega
            go_wp2
            go_roundw
            case rel => exact ⟨k + 1, by omega, by go_num, by rw [hls.out, if_neg hbig]; go_num, by rw [hon.out], by first | rfl | trivial⟩
            case measure => simp [intOf]; omega
      · have hoi : ((lfF k : Nat) : Int) % 2 = 0 := by omega
        have hon : ocF i (k + 1) = ocF i k := by rw [hos.out, if_neg (by omega)]
        replace hon := Lib.hid hon.symm
        by_cases h7k : 7 * i ≤ k
        · have hjp : 0 ≤ (k : Int) - 7 * (i : Int) := by omega
          by_cases hbig : 256 ≤ 2 * lfF k
          · have hbi : 256 ≤ 2 * ((lfF k : Nat) : Int) := by omega
            go_wp2
            go_roundw
            case rel => exact ⟨k + 1, by omega, by go_num, by rw [hls.out, if_pos hbig], by rw [hon.out], by first | rfl | trivial⟩
            case measure => simp [intOf]; omega
          · have hbi : decide (256 ≤ 2 * ((lfF k : Nat) : Int)) = false := by simp; omega
            go_wp2
            go_roundw
            case rel => exact ⟨k + 1, by omega, by go_num, by rw [hls.out, if_neg hbig]; go_num, by rw [hon.out], by first | rfl | trivial⟩
            case measure => simp [intOf]; omega
        · have hjn : decide (0 ≤ (k : Int) - 7 * (i : Int)) = false := by simp; omega
          by_cases hbig : 256 ≤ 2 * lfF k
          · have hbi : 256 ≤ 2 * ((lfF k : Nat) : Int) := by omega
            go_wp2
            go_roundw
            case rel => exact ⟨k + 1, by omega, by go_num, by rw [hls.out, if_pos hbig], by rw [hon.out], by first | rfl | trivial⟩
            case measure => simp [intOf]; omega
          · have hbi : decide (256 ≤ 2 * ((lfF k : Nat) : Int)) = false := by simp; omega
            go_wp2
            go_roundw
            case rel => exact ⟨k + 1, by omega, by go_num, by rw [hls.out, if_neg hbig]; go_num, by rw [hon.out], by first | rfl | trivial⟩
            case measure => simp [intOf]; omega
    · have hmf : decide ((k : Int) < 7 * (i : Int) + 7) = false := by simp; omega
      obtain rfl : k = 7 * i + 7 := by omega
      rw [oc_all i hi]
      go_wp2
      go_ret
      exact ⟨rfl, Below.refl _ _⟩
end Go.Proofs.YtcdjdnbdblpofaaDoor

/- The contract of the document's turns. Conditions: none. -/
namespace Go.Proofs.YtcdjdnbdblpofaaDoor
open Go.RowKit
attribute [local go_sem] leftBy
set_option linter.unusedSimpArgs false
set_option linter.unusedVariables false


/-- The lane at a step; at which step a lane's turn is told. -/
def laneT (t : Nat) : Nat := if t = 0 then 1 else placesF (t - 1)
def tposF (j : Nat) : Nat := if j = 1 then 0 else posF j + 1
def turnsN (n : Nat) : Nat → Nat := fun j => if tposF j < n then rotF j else 0
theorem turnsN_zero (j : Nat) : 0 = turnsN 0 j := by unfold turnsN; rw [if_neg (by omega)]
theorem turnsN_succ : ∀ n, n < 24 → ∀ j, j < 25 → (if j = laneT n then (n + 1) * (n + 2) / 2 % 64 else turnsN n j) = turnsN (n + 1) j := by decide +kernel
theorem turnsN_all : ∀ j, j < 25 → turnsN 24 j = rotF j := by decide +kernel
theorem lane_lt : ∀ n, n < 25 → laneT n < 25 := by decide +kernel
theorem lane_next : ∀ n, n < 24 → laneT n / 5 = laneT (n + 1) % 5 ∧ (2 * (laneT n % 5) + 3 * (laneT n / 5)) % 5 = laneT (n + 1) / 5 := by decide +kernel

theorem lane_at {n : Nat} (h : n < 25) : n % 5 % 5 + 5 * (n / 5 % 5) = n := by omega

attribute [local irreducible] laneT turnsN rotF numA

theorem info25i : (Tryd.prog.info? 137).map (·.size) = some 25 := by kernel_rfl
theorem under25i : Tryd.prog.underlying 137 = some (.array 25 3) := by kernel_rfl

set_option maxRecDepth 100000 in
set_option maxHeartbeats 4000000 in
/-- turns. -/
theorem ref_turns (w : World) :
    Calls Tryd.prog 89 #[] w fun e w' => e = .returned (.agg (numA .i64 25 rotF)) ∧ Below w.heap.size w w' := by
  go_enter Tryd.func89, Tryd.ntmps89
  go_wp2
  rw [← numA25]
  go_loopw [2, 3, 4] (fun x y n wr => ∃ k : Nat, k ≤ 24 ∧ n = .int .i64 k ∧ x = .int .i64 (laneT k % 5 : Nat) ∧ y = .int .i64 (laneT k / 5 : Nat) ∧ rowN .i64 25 137 wr (w.heap.size + 1) (turnsN k) ∧ rowN .i64 25 137 wr w.heap.size (fun _ => 0) ∧ Below w.heap.size w wr)
    (fun _ _ n _ => 24 - (intOf n).toNat)
  case atStart =>
    refine ⟨0, by omega, rfl, by rw [show laneT 0 % 5 = 1 by decide +kernel]; rfl, by rw [show laneT 0 / 5 = 0 by decide +kernel]; rfl, (rowN.new (by simp)).to fun j _ => turnsN_zero j, (rowN.new rfl).alloc _, ?_⟩
    repeat (with_reducible first | exact Below.refl _ _ | assumption | refine below_drewN ?_ _ | refine Below.drew ?_ | refine below_setRow' ?_ (by first | omega | (simp; done) | (simp; omega)) _ | refine Below.setCell ?_ (by first | omega | (simp; done) | (simp; omega)) _ | refine Below.alloc ?_ (by first | omega | (simp; done) | (simp; omega)) _ | refine Below.trans ?_ (Below.mono (by assumption) (by first | omega | (simp; done) | (simp; omega))))
  case round =>
    obtain ⟨k, hk, rfl, rfl, rfl, hrow, hres, hbel⟩ := hrel
    have hlt := hrow.lt
    by_cases h24 : k < 24
    · have h24i : (k : Int) < 24 := by omega
      obtain ⟨hl1, hl2⟩ := lane_next k h24
      have hll := lane_lt k (by omega)
      have hsu := turnsN_succ k h24
      have cA : ∀ W, Calls Tryd.prog 93 #[.int .i64 (laneT k % 5 : Nat), .int .i64 (laneT k / 5 : Nat)] W fun e w' => e = .returned (.int .i64 (laneT k : Nat)) ∧ w' = W := fun W => by
        have := ref_at0 (laneT k % 5) (laneT k / 5) (by omega) (by omega) W
        rwa [lane_at hll] at this
      have hX5 : laneT k % 5 < 5 := by omega
      have hY5 : laneT k / 5 < 5 := by omega
      have hlf := hrow.free
      have ct := hrow.cellAt hll
      have hp1 : (k + 1) * (k + 2) ≤ 24 * 25 := Nat.mul_le_mul (by omega) (by omega)
      have hp : ((k : Int) + 1) * ((k : Int) + 2) = (((k + 1) * (k + 2) : Nat) : Int) := by push_cast; rfl
      generalize (k + 1) * (k + 2) = P at *
      have hLi : ((laneT k : Nat) : Int) < 25 := by omega
      generalize hX : laneT k % 5 = X at *
      generalize hY : laneT k / 5 = Y at *
      generalize laneT k = L at *
      replace hX := Lib.hid hX
      replace hY := Lib.hid hY
      replace hl1 := Lib.hid hl1
      replace hl2 := Lib.hid hl2
      have hYi : ((Y : Nat) : Int) < 5 := by omega
      have hXi : ((X : Nat) : Int) < 5 := by omega
      go_wp2_with (go_at_call 93; refine (cA _).mono ?_; rintro e wx ⟨rfl, rfl⟩)
      go_roundw
      case rel =>
        refine ⟨k + 1, by omega, by go_num, by rw [← hl1.out], by rw [← hl2.out]; go_num, ?_, hres.set (by omega), ?_⟩
        · exact hrow.store.to hsu
        repeat (with_reducible first | exact Below.refl _ _ | assumption | refine below_drewN ?_ _ | refine Below.drew ?_ | refine below_setRow' ?_ (by first | omega | (simp; done) | (simp; omega)) _ | refine Below.setCell ?_ (by first | omega | (simp; done) | (simp; omega)) _ | refine Below.alloc ?_ (by first | omega | (simp; done) | (simp; omega)) _ | refine Below.trans ?_ (Below.mono (by assumption) (by first | omega | (simp; done) | (simp; omega))))
      case measure => simp [intOf]; omega
    · have hmf : decide ((k : Int) < 24) = false := by simp; omega
      replace hrow := hrow.to (show ∀ j, j < 25 → turnsN k j = rotF j by rw [show k = 24 by omega]; exact turnsN_all)
      clear h24 hk
      obtain hg := show wr.heap[w.heap.size + 1]? = some (.cells (numA .i64 25 rotF) 137 (0, 0)) from hrow
      have hs0 : (Tryd.prog.info? 137).map (·.size) = some (numA .i64 25 rotF).size := by rw [numA_size]; exact info25i
      have hst := hres.storeA (P := Tryd.prog) rotF
      have hres' := hres.setRow rotF
      have hbz : (numA .i64 25 rotF).size = 25 := numA_size _
      go_wp2_with (with_reducible refine wpList_load_row rfl 137 (.tmp 1) rfl _ rfl _ _ _ _ hg under25i rfl hs0 ?_)
      refine bodyPost_ret (results_cell_row (p := 0) (ty := 137) (by simp only [Tryd.results89]) _ _ w.heap.size _ _ (0, 0) _ rfl hres' under25i rfl hs0) rfl ⟨rfl, ?_⟩
      repeat (with_reducible first | exact Below.refl _ _ | assumption | refine below_drewN ?_ _ | refine Below.drew ?_ | refine below_setRow' ?_ (by first | omega | (simp; done) | (simp; omega)) _ | refine Below.setCell ?_ (by first | omega | (simp; done) | (simp; omega)) _ | refine Below.alloc ?_ (by first | omega | (simp; done) | (simp; omega)) _ | refine Below.trans ?_ (Below.mono (by assumption) (by first | omega | (simp; done) | (simp; omega))))
end Go.Proofs.YtcdjdnbdblpofaaDoor
