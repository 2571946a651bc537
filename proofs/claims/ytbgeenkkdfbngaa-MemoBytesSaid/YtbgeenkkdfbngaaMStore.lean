/-
  The contracts of memo.Store and memo.Load. Conditions: none.
-/
import Derived.Test.YtbgeenkkdfbngaaMPut
import Derived.Test.YtbgeenkkdfbngaaMNeed
import Derived.Test.YtbgeenkkdfbngaaFrom
import Derived.Test.YtbgeenkkdfbngaaBytesR
namespace Go.Proofs.Ytbgeenkkdfbngaa
open Go.RowKit
attribute [local go_sem] leftBy
set_option linter.unusedSimpArgs false
set_option linter.unusedVariables false


theorem push_data : ∀ (l : List Int) (b : ByteArray), (l.foldl (fun r n => r.push (UInt8.ofNat n.toNat)) b).data = b.data ++ (l.map fun n => UInt8.ofNat n.toNat).toArray
  | [], b => by simp
  | x :: l, b => by
    rw [List.foldl_cons, push_data l]
    simp [ByteArray.push]

theorem bytesS_data (a : Nat) : (bytesS a).data = ((bytesL a).map fun n => UInt8.ofNat n.toNat).toArray := by
  unfold bytesS
  rw [push_data]
  simp

theorem bytesS_size (a : Nat) : (bytesS a).size = 32 := by
  show (bytesS a).data.size = 32
  rw [bytesS_data]
  simp [bytesL]

theorem byteAt_some {s : ByteArray} {j : Nat} {b : UInt8} (h : s.data[j]? = some b) : byteAt s j = b.toNat := by
  cases s with
  | mk d =>
    obtain ⟨hj, hb⟩ := Array.getElem?_eq_some_iff.1 h
    unfold byteAt
    exact (dif_pos hj).trans (congrArg UInt8.toNat hb)

theorem bytesS_at (a : Nat) {j : Nat} (hj : j < 32) : byteAt (bytesS a) j = byteOf a (31 - j) := by
  have e2 : (bytesS a).data[j]? = some (UInt8.ofNat (byteOf a (31 - j))) := by
    rw [bytesS_data]
    simp [bytesL, hj]
  rw [byteAt_some e2]
  have := byteOf_lt a (31 - j)
  generalize byteOf a (31 - j) = b at *
  rw [UInt8.toNat_ofNat']
  omega

theorem from_bytes {a : Nat} (ha : a < Q256) : orF (byteR (bytesS a)) (min (bytesS a).size 32) = a := by
  rw [bytesS_size]
  refine orF_word ha (fun k hk => ?_) (byteR_lt _)
  unfold byteR
  rw [bytesS_size, if_pos hk, bytesS_at a (by omega), show 31 - (32 - 1 - k) = k by omega]

/-- Store. -/
def storeS (m : ByteArray) (off a : Nat) : ByteArray := if off + 32 ≤ m.size then putS m off (bytesS a) else ⟨#[]⟩
def fitE (m : ByteArray) (off k : Nat) : Int := if off + k ≤ m.size then 0 else 2

attribute [local irreducible] lb bytesS putS

set_option maxHeartbeats 4000000 in
theorem Store_any (m : ByteArray) (off a : Nat) (hm : m.size ≤ maxLen) (ho : off < M64) (ha : a < Q256) (w : World) :
    Calls Try.prog 13 #[.string m, .int .u64 (off : Nat), W4 a] w fun e w' => e = .returned (.tuple #[.string (storeS m off a), .int .i64 (fitE m off 32)]) ∧ Below w.heap.size w w' := by
  have c1 := fun W => has_any m off 32 hm ho (by decide +kernel) W
  have hz := bytesS_size a
  have c2 := fun W => Bytes_any a ha W
  by_cases h : off + 32 ≤ m.size
  · have c3 := fun W => put_any m off (bytesS a) hm (by omega) (by omega) W
    rw [decide_eq_true h] at c1
    rw [show storeS m off a = putS m off (bytesS a) from if_pos h, show fitE m off 32 = 0 from if_pos h]
    generalize bytesS a = s at *
    generalize putS m off s = p at *
    go_enter Try.func13, Try.ntmps13
    go_wp2_with (first | (go_at_call 25; refine (c1 _).mono ?_; rintro e _ ⟨rfl, hww⟩; obtain rfl := hww.symm) | (go_at_call 15; refine (c2 _).mono ?_; rintro e wa ⟨rfl, hb_wa⟩; have hc_wa := (bcell hb_wa).1; have hf_wa := (bcell hb_wa).2; have hz_wa : _ ≤ wa.heap.size := hb_wa.size; (try simp only [World.size_alloc, World.heap_drewN, World.size_setCell, heap_drew] at hc_wa hf_wa hz_wa); have hz_wa_w_0 : w.heap.size < wa.heap.size := (by omega)) | (go_at_call 26; with_reducible refine (c3 _).mono ?_; rintro e wb ⟨rfl, hb_wb⟩; have hc_wb := (bcell hb_wb).1; have hf_wb := (bcell hb_wb).2; have hz_wb : _ ≤ wb.heap.size := hb_wb.size; (try simp only [World.size_alloc, World.heap_drewN, World.size_setCell, heap_drew] at hc_wb hf_wb hz_wb); have hz_wb_w_0 : w.heap.size < wb.heap.size := (by omega)))
    refine bodyPost_ret (by simp only [results, Try.results13]; go_simp; try rfl) rfl ⟨rfl, ?_⟩
    repeat (with_reducible first | exact Below.refl _ _ | assumption | refine below_drewN ?_ _ | refine Below.drew ?_ | refine Below.setCell ?_ (by first | omega | (simp; done) | (simp; omega)) _ | refine Below.alloc ?_ (by first | omega | (simp; done) | (simp; omega)) _ | refine Below.trans ?_ (Below.mono (by assumption) (by first | omega | (simp; done) | (simp; omega))))
  · rw [decide_eq_false h] at c1
    rw [show storeS m off a = ⟨#[]⟩ from if_neg h, show fitE m off 32 = 2 from if_neg h]
    go_enter Try.func13, Try.ntmps13
    go_wp2_with (go_at_call 25; refine (c1 _).mono ?_; rintro e _ ⟨rfl, hww⟩; obtain rfl := hww.symm)
    refine bodyPost_ret (by simp only [results, Try.results13]; go_simp; try rfl) rfl ⟨rfl, ?_⟩
    repeat (with_reducible first | exact Below.refl _ _ | assumption | refine below_drewN ?_ _ | refine Below.drew ?_ | refine Below.setCell ?_ (by first | omega | (simp; done) | (simp; omega)) _ | refine Below.alloc ?_ (by first | omega | (simp; done) | (simp; omega)) _ | refine Below.trans ?_ (Below.mono (by assumption) (by first | omega | (simp; done) | (simp; omega))))

/-- Load. -/
def loadW (m : ByteArray) (off : Nat) : Nat := orF (byteR (sliceS m off 32)) (min (sliceS m off 32).size 32)
theorem loadW_lt (m : ByteArray) (off : Nat) : loadW m off < Q256 := orF_lt (byteR_lt _) (Nat.min_le_right _ _)

attribute [local irreducible] loadW

set_option maxHeartbeats 4000000 in
theorem Load_any (m : ByteArray) (off : Nat) (hm : m.size ≤ maxLen) (ho : off < M64) (w : World) :
    Calls Try.prog 14 #[.string m, .int .u64 (off : Nat)] w fun e w' => e = .returned (.tuple #[W4 (loadW m off), .int .i64 (sliceE m off 32)]) ∧ Below w.heap.size w w' := by
  have c1 := fun W => Slice_any m off 32 hm ho (by decide +kernel) W
  have hz : (sliceS m off 32).size ≤ maxLen := by
    unfold sliceS
    split
    · rw [ByteArray.size_extract]; omega
    · exact Nat.zero_le _
  have c2 := fun W => From_any (sliceS m off 32) hz W
  rw [show orF (byteR (sliceS m off 32)) (min (sliceS m off 32).size 32) = loadW m off by unfold loadW; rfl] at c2
  generalize loadW m off = x at *
  generalize sliceS m off 32 = s at *
  generalize sliceE m off 32 = f at *
  go_enter Try.func14, Try.ntmps14
  go_wp2_with (first | (go_at_call 12; refine (c1 _).mono ?_; rintro e _ ⟨rfl, hww⟩; obtain rfl := hww.symm) | (go_at_call 27; refine (c2 _).mono ?_; rintro e wa ⟨rfl, hb_wa⟩; have hc_wa := (bcell hb_wa).1; have hf_wa := (bcell hb_wa).2; have hz_wa : _ ≤ wa.heap.size := hb_wa.size; (try simp only [World.size_alloc, World.heap_drewN, World.size_setCell, heap_drew] at hc_wa hf_wa hz_wa); have hz_wa_w_0 : w.heap.size < wa.heap.size := (by omega)))
  refine bodyPost_ret (by simp only [results, Try.results14]; go_simp; try rfl) rfl ⟨rfl, ?_⟩
  repeat (with_reducible first | exact Below.refl _ _ | assumption | refine below_drewN ?_ _ | refine Below.drew ?_ | refine Below.setCell ?_ (by first | omega | (simp; done) | (simp; omega)) _ | refine Below.alloc ?_ (by first | omega | (simp; done) | (simp; omega)) _ | refine Below.trans ?_ (Below.mono (by assumption) (by first | omega | (simp; done) | (simp; omega))))
end Go.Proofs.Ytbgeenkkdfbngaa
