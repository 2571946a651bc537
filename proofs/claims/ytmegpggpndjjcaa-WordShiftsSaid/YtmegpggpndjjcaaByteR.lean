/-
  The contract of the document's Byte. Conditions: none.
-/
import Derived.Test.YtmegpggpndjjcaaBytesR
import Derived.Test.YtmegpggpndjjcaaFrom
import Derived.Test.YtmegpggpndjjcaaShiftR
namespace Go.Proofs.Ytmegpggpndjjcaa
open Go.RowKit
attribute [local go_sem] leftBy
set_option linter.unusedSimpArgs false
set_option linter.unusedVariables false


theorem push_data : ∀ (l : List Int) (b : ByteArray), (l.foldl (fun r n => r.push (UInt8.ofNat n.toNat)) b).data = b.data ++ (l.map fun n => UInt8.ofNat n.toNat).toArray
  | [], b => by simp
  | x :: l, b => by
    rw [List.foldl_cons, push_data l]
    simp [ByteArray.push]

theorem bytesS_data (a : Nat) : (bytesS a).data = ((bytesL a).map fun n => UInt8.ofNat n.toNat).toArray := by
  unfold bytesS
  rw [push_data]
  simp

theorem bytesS_size (a : Nat) : (bytesS a).size = 32 := by
  show (bytesS a).data.size = 32
  rw [bytesS_data]
  simp [bytesL]

theorem byteAt_some {s : ByteArray} {j : Nat} {b : UInt8} (h : s.data[j]? = some b) : byteAt s j = b.toNat := by
  cases s with
  | mk d =>
    obtain ⟨hj, hb⟩ := Array.getElem?_eq_some_iff.1 h
    unfold byteAt
    exact (dif_pos hj).trans (congrArg UInt8.toNat hb)

theorem bytesS_at (a : Nat) {j : Nat} (hj : j < 32) : byteAt (bytesS a) j = byteOf a (31 - j) := by
  have e2 : (bytesS a).data[j]? = some (UInt8.ofNat (byteOf a (31 - j))) := by
    rw [bytesS_data]
    simp [bytesL, hj]
  rw [byteAt_some e2]
  have := byteOf_lt a (31 - j)
  generalize byteOf a (31 - j) = b at *
  rw [UInt8.toNat_ofNat']
  omega

attribute [local irreducible] lb bytesS byteOf

set_option maxHeartbeats 4000000 in
/-- The document's Byte. -/
theorem ref_Byte (n a : Nat) (hn : n < Q256) (ha : a < Q256) (w : World) :
    Calls Try.prog 52 #[W4 n, W4 a] w fun e w' => e = .returned (W4 (byteW n a)) ∧ Below w.heap.size w w' := by
  have c1 : ∀ W, Calls Try.prog 73 #[W4 n, .int .u64 32] W fun e w' => e = .returned (.int .i64 (min n 32 : Nat)) ∧ Below W.heap.size W w' := fun W => ref_upTo n 32 hn (by decide) W
  have c2 := fun W => ref_Bytes a ha W
  by_cases h : n ≤ 31
  · have hB : byteW n a = byteOf a (31 - n) := by unfold byteW; rw [if_pos h]
    rw [hB]
    rw [Nat.min_eq_left (by omega)] at c1
    have hix := fun W => index_str (bytesS a) n (by rw [bytesS_size]; omega) W
    rw [bytesS_at a (by omega)] at hix
    have hlt := byteOf_lt a (31 - n)
    have c3 := fun W => ref_Of (byteOf a (31 - n)) (Nat.lt_trans hlt (by decide)) W
    generalize byteOf a (31 - n) = b at *
    clear hB
    go_enter Try.func52, Try.ntmps52
    go_wp2_with (first
      | (go_at_call 73; with_reducible refine (c1 _).mono ?_; rintro e wa ⟨rfl, hb_wa⟩; have hc_wa := (bcell hb_wa).1; have hf_wa := (bcell hb_wa).2; have hz_wa : _ ≤ wa.heap.size := hb_wa.size; (try simp only [World.size_alloc, World.heap_drewN, World.size_setCell, heap_drew] at hc_wa hf_wa hz_wa); have hz_wa_w_0 : w.heap.size < wa.heap.size := (by omega); have hz_wa_w_1 : w.heap.size + 1 < wa.heap.size := (by omega); have hz_wa_w_2 : w.heap.size + 1 + 1 < wa.heap.size := (by omega))
      | (go_at_call 27; with_reducible refine (c2 _).mono ?_; rintro e wb ⟨rfl, hb_wb⟩; have hc_wb := (bcell hb_wb).1; have hf_wb := (bcell hb_wb).2; have hz_wb : _ ≤ wb.heap.size := hb_wb.size; (try simp only [World.size_alloc, World.heap_drewN, World.size_setCell, heap_drew] at hc_wb hf_wb hz_wb); have hz_wb_w_0 : w.heap.size < wb.heap.size := (by omega); have hz_wb_w_1 : w.heap.size + 1 < wb.heap.size := (by omega); have hz_wb_w_2 : w.heap.size + 1 + 1 < wb.heap.size := (by omega))
      | (go_at_call 36; with_reducible refine (c3 _).mono ?_; rintro e wc ⟨rfl, hb_wc⟩; have hc_wc := (bcell hb_wc).1; have hf_wc := (bcell hb_wc).2; have hz_wc : _ ≤ wc.heap.size := hb_wc.size; (try simp only [World.size_alloc, World.heap_drewN, World.size_setCell, heap_drew] at hc_wc hf_wc hz_wc); have hz_wc_w_0 : w.heap.size < wc.heap.size := (by omega); have hz_wc_w_1 : w.heap.size + 1 < wc.heap.size := (by omega); have hz_wc_w_2 : w.heap.size + 1 + 1 < wc.heap.size := (by omega)))
    refine bodyPost_ret (by simp only [results, Try.results52]; go_simp; try rfl) rfl ⟨rfl, ?_⟩
    repeat (with_reducible first | exact Below.refl _ _ | assumption | refine below_drewN ?_ _ | refine Below.drew ?_ | refine Below.setCell ?_ (by first | omega | (simp; done) | (simp; omega)) _ | refine Below.alloc ?_ (by first | omega | (simp; done) | (simp; omega)) _ | refine Below.trans ?_ (Below.mono (by assumption) (by first | omega | (simp; done) | (simp; omega))))
  · have hB : byteW n a = 0 := by unfold byteW; rw [if_neg h]
    rw [hB]
    rw [Nat.min_eq_right (by omega), show ((32 : Nat) : Int) = 32 from rfl] at c1
    go_enter Try.func52, Try.ntmps52
    go_wp2_with (go_at_call 73; with_reducible refine (c1 _).mono ?_; rintro e wa ⟨rfl, hb_wa⟩; have hc_wa := (bcell hb_wa).1; have hf_wa := (bcell hb_wa).2; have hz_wa : _ ≤ wa.heap.size := hb_wa.size; (try simp only [World.size_alloc, World.heap_drewN, World.size_setCell, heap_drew] at hc_wa hf_wa hz_wa); have hz_wa_w_0 : w.heap.size < wa.heap.size := (by omega); have hz_wa_w_1 : w.heap.size + 1 < wa.heap.size := (by omega); have hz_wa_w_2 : w.heap.size + 1 + 1 < wa.heap.size := (by omega))
    refine bodyPost_ret (by simp only [results, Try.results52]; go_simp; try rfl) rfl ⟨by rw [W4_zero], ?_⟩
    repeat (with_reducible first | exact Below.refl _ _ | assumption | refine below_drewN ?_ _ | refine Below.drew ?_ | refine Below.setCell ?_ (by first | omega | (simp; done) | (simp; omega)) _ | refine Below.alloc ?_ (by first | omega | (simp; done) | (simp; omega)) _ | refine Below.trans ?_ (Below.mono (by assumption) (by first | omega | (simp; done) | (simp; omega))))
end Go.Proofs.Ytmegpggpndjjcaa
