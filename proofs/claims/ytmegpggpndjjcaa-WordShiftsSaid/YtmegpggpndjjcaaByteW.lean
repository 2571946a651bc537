/-
  The contract of word.Byte, and the document's order with signs as a number's. Conditions: none.
-/
import Derived.Test.YtmegpggpndjjcaaShift
import Derived.Test.YtmegpggpndjjcaaW4
import Derived.Test.YtmegpggpndjjcaaProd
namespace Go.Proofs.Ytmegpggpndjjcaa
open Go.RowKit
attribute [local go_sem] leftBy
set_option linter.unusedSimpArgs false
set_option linter.unusedVariables false


/-- The document's order with signs. -/
theorem sltB_neg {a b : Nat} (ha : a < Q256) (hb : b < Q256) : (if negB a != negB b then negB a else ltB a b) = sltB a b := by
  unfold sltB ltB flip negB
  have e : M64 * M64 * M64 * 9223372036854775808 = Q256 / 2 := by decide +kernel
  rw [e]
  have h2 : Q256 / 2 = 57896044618658097711785492504343953926634992332820282019728792003956564819968 := by decide +kernel
  rw [h2]
  unfold Q256 at *
  by_cases h1 : 57896044618658097711785492504343953926634992332820282019728792003956564819968 ≤ a <;> by_cases h3 : 57896044618658097711785492504343953926634992332820282019728792003956564819968 ≤ b <;>
    simp only [h1, h3, decide_true, decide_false, bne_self_eq_false, Bool.bne_true, Bool.bne_false, Bool.not_true, Bool.not_false, if_true, if_false, Bool.false_eq_true] <;>
    first | (rw [decide_eq_decide]; omega) | (rw [eq_comm, decide_eq_true_eq]; omega) | (rw [eq_comm, decide_eq_false_iff_not]; omega)

/-- Byte k of a number, the lowest first. -/
def byteOf (n k : Nat) : Nat := n / 256 ^ k % 256
theorem byteOf_lt (n k : Nat) : byteOf n k < 256 := Nat.mod_lt _ (by decide)

theorem byteOf_lb (n i k : Nat) (hk : k < 8) : lb n i / 2 ^ (8 * k) % 256 = byteOf n (8 * i + k) := by
  unfold byteOf
  rw [lb_bits, pow_split (8 * k) 64 (by omega), Nat.mod_mul_right_div_self, Nat.mod_mod_of_dvd _ ⟨2 ^ (56 - 8 * k), by rw [show (256 : Nat) = 2 ^ 8 by decide, ← Nat.pow_add]; congr 1; omega⟩, Nat.div_div_eq_div_mul, ← Nat.pow_add, show (256 : Nat) = 2 ^ 8 by decide, ← Nat.pow_mul]
  congr 3
  omega

/-- Byte i of a word, from the highest one on. -/
def byteW (i a : Nat) : Nat := if i ≤ 31 then byteOf a (31 - i) else 0
theorem byteW_lt (i a : Nat) : byteW i a < 256 := by
  unfold byteW
  split
  · exact byteOf_lt _ _
  · decide

theorem u64_and8 {x : Nat} (h : x < M64) : bits .and .u64 ((x : Nat) : Int) 255 = ((x % 256 : Nat) : Int) := by
  rw [show (255 : Int) = ((255 : Nat) : Int) from rfl, u64_and_nat _ _ h (by decide)]
  congr 1
  have := Nat.and_two_pow_sub_one_eq_mod x 8
  simpa using this

attribute [local irreducible] lb byteOf byteW

set_option maxHeartbeats 4000000 in
/-- word.Byte. -/
theorem Byte_any (i a : Nat) (hi : i < Q256) (ha : a < Q256) (w : World) :
    Calls Try.prog 51 #[W4 i, W4 a] w fun e w' => e = .returned (W4 (byteW i a)) ∧ Below w.heap.size w w' := by
  have c1 := fun W => small_any i hi W
  by_cases h31 : i ≤ 31
  · rw [show decide (i < 256) = true from decide_eq_true (by omega), lb_self (show i < M64 by unfold M64; omega)] at c1
    have hB : byteW i a = byteOf a (31 - i) := by unfold byteW; rw [if_pos h31]
    have hbl := byteOf_lb a (3 - i / 8) (7 - i % 8) (by omega)
    rw [show 8 * (3 - i / 8) + (7 - i % 8) = 31 - i by omega, show 8 * (7 - i % 8) = 56 - 8 * (i % 8) by omega] at hbl
    have c2 := fun W => Of_any (byteOf a (31 - i)) (Nat.lt_trans (byteOf_lt _ _) (by decide)) W
    rw [hB]
    have k1 : ((i : Nat) : Int) / 8 = ((i / 8 : Nat) : Int) := by omega
    have k2 : ((i : Nat) : Int) % 8 = ((i % 8 : Nat) : Int) := by omega
    have hp : 3 - i / 8 < 4 := by omega
    have k3 : (3 : Int) - ((i / 8 : Nat) : Int) = ((3 - i / 8 : Nat) : Int) := by omega
    have hl := lb_lt a (3 - i / 8)
    have hand : bits .and .u64 (((lb a (3 - i / 8) : Nat) : Int) / 2 ^ (56 - 8 * (i % 8))) 255 = ((byteOf a (31 - i) : Nat) : Int) := by
      have e : ((lb a (3 - i / 8) : Nat) : Int) / 2 ^ (56 - 8 * (i % 8)) = ((lb a (3 - i / 8) / 2 ^ (56 - 8 * (i % 8)) : Nat) : Int) := by push_cast; rfl
      rw [e, u64_and8 (Nat.lt_of_le_of_lt (Nat.div_le_self _ _) hl), hbl]
    generalize byteOf a (31 - i) = v at *
    have hq : i / 8 ≤ 3 := by omega
    have hr : i % 8 ≤ 7 := by omega
    generalize i / 8 = q at *
    generalize i % 8 = r at *
    generalize hP : 3 - q = p at *
    have hkI : ((i : Nat) : Int) ≤ 31 := by omega
    clear hbl hB h31
    go_enter Try.func51, Try.ntmps51
    go_wp2_with (first | (go_at_call 70; with_reducible refine (c1 _).mono ?_; rintro e wa ⟨rfl, hb_wa⟩; have rz : rowW 24 wa (w.heap.size + 1 + 1) 0 := ((rowW.new0 (by simp)).below hb_wa (by simp)); obtain ⟨z0, z1, z2, z3, zf⟩ := rz.cells; have hz_wa := rz.lt; have hz_wa1 : w.heap.size + 1 < wa.heap.size := (by omega); clear rz; have cp : wa.cell? ⟨w.heap.size + 1, p, none⟩ = some (.int .u64 (lb a p : Nat)) := (by refine rowW.cellAt (t := 24) ?_ hp; exact ((rowW.new (by simp)).alloc _).below hb_wa (by simp))) | (go_at_call 35; with_reducible refine (c2 _).mono ?_; rintro e wb ⟨rfl, hb_wb⟩; have hc_wb := (bcell hb_wb).1; have hf_wb := (bcell hb_wb).2; have hz_wb : _ ≤ wb.heap.size := hb_wb.size; (try simp only [World.size_alloc, World.heap_drewN, World.size_setCell, heap_drew] at hc_wb hf_wb hz_wb)))
    refine bodyPost_ret (by simp only [results, Try.results51]; go_simp) rfl ⟨rfl, ?_⟩
    repeat (with_reducible first | exact Below.refl _ _ | assumption | refine below_drewN ?_ _ | refine Below.drew ?_ | refine Below.setCell ?_ (by first | omega | (simp; done) | (simp; omega)) _ | refine Below.alloc ?_ (by first | omega | (simp; done) | (simp; omega)) _ | refine Below.trans ?_ (Below.mono (by assumption) (by first | omega | (simp; done) | (simp; omega))))
  · have hB : byteW i a = 0 := by unfold byteW; rw [if_neg h31]
    rw [hB, W4_zero]
    clear hB
    by_cases h256 : i < 256
    · rw [show decide (i < 256) = true from decide_eq_true h256, lb_self (show i < M64 by unfold M64; omega)] at c1
      have hkI : decide (31 < ((i : Nat) : Int)) = true := by simp only [decide_eq_true_eq]; omega
      clear h31
      go_enter Try.func51, Try.ntmps51
      go_wp2_with (first | (go_at_call 70; refine (c1 _).mono ?_; rintro e wa ⟨rfl, hb_wa⟩; have hc_wa := (bcell hb_wa).1; have hf_wa := (bcell hb_wa).2; have hz_wa : _ ≤ wa.heap.size := hb_wa.size; (try simp only [World.size_alloc, World.heap_drewN, World.size_setCell, heap_drew] at hc_wa hf_wa hz_wa); have hz_wa_w_0 : w.heap.size < wa.heap.size := (by omega); have hz_wa_w_1 : w.heap.size + 1 < wa.heap.size := (by omega); have hz_wa_w_2 : w.heap.size + 1 + 1 < wa.heap.size := (by omega)) | (go_at_call 56; refine (zero_any _).mono ?_; rintro e wb ⟨rfl, hb_wb⟩; have hc_wb := (bcell hb_wb).1; have hf_wb := (bcell hb_wb).2; have hz_wb : _ ≤ wb.heap.size := hb_wb.size; (try simp only [World.size_alloc, World.heap_drewN, World.size_setCell, heap_drew] at hc_wb hf_wb hz_wb); have hz_wb_w_0 : w.heap.size < wb.heap.size := (by omega); have hz_wb_w_1 : w.heap.size + 1 < wb.heap.size := (by omega); have hz_wb_w_2 : w.heap.size + 1 + 1 < wb.heap.size := (by omega)))
      refine bodyPost_ret (by simp only [results, Try.results51]; go_simp) rfl ⟨rfl, ?_⟩
      repeat (with_reducible first | exact Below.refl _ _ | assumption | refine below_drewN ?_ _ | refine Below.drew ?_ | refine Below.setCell ?_ (by first | omega | (simp; done) | (simp; omega)) _ | refine Below.alloc ?_ (by first | omega | (simp; done) | (simp; omega)) _ | refine Below.trans ?_ (Below.mono (by assumption) (by first | omega | (simp; done) | (simp; omega))))
    · rw [show decide (i < 256) = false from decide_eq_false h256] at c1
      clear h31 h256
      go_enter Try.func51, Try.ntmps51
      go_wp2_with (first | (go_at_call 70; refine (c1 _).mono ?_; rintro e wa ⟨rfl, hb_wa⟩; have hc_wa := (bcell hb_wa).1; have hf_wa := (bcell hb_wa).2; have hz_wa : _ ≤ wa.heap.size := hb_wa.size; (try simp only [World.size_alloc, World.heap_drewN, World.size_setCell, heap_drew] at hc_wa hf_wa hz_wa); have hz_wa_w_0 : w.heap.size < wa.heap.size := (by omega); have hz_wa_w_1 : w.heap.size + 1 < wa.heap.size := (by omega); have hz_wa_w_2 : w.heap.size + 1 + 1 < wa.heap.size := (by omega)) | (go_at_call 56; refine (zero_any _).mono ?_; rintro e wb ⟨rfl, hb_wb⟩; have hc_wb := (bcell hb_wb).1; have hf_wb := (bcell hb_wb).2; have hz_wb : _ ≤ wb.heap.size := hb_wb.size; (try simp only [World.size_alloc, World.heap_drewN, World.size_setCell, heap_drew] at hc_wb hf_wb hz_wb); have hz_wb_w_0 : w.heap.size < wb.heap.size := (by omega); have hz_wb_w_1 : w.heap.size + 1 < wb.heap.size := (by omega); have hz_wb_w_2 : w.heap.size + 1 + 1 < wb.heap.size := (by omega)))
      refine bodyPost_ret (by simp only [results, Try.results51]; go_simp) rfl ⟨rfl, ?_⟩
      repeat (with_reducible first | exact Below.refl _ _ | assumption | refine below_drewN ?_ _ | refine Below.drew ?_ | refine Below.setCell ?_ (by first | omega | (simp; done) | (simp; omega)) _ | refine Below.alloc ?_ (by first | omega | (simp; done) | (simp; omega)) _ | refine Below.trans ?_ (Below.mono (by assumption) (by first | omega | (simp; done) | (simp; omega))))
end Go.Proofs.Ytmegpggpndjjcaa
