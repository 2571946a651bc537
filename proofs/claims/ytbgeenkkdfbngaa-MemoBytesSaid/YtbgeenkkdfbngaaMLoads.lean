/-
  The contracts of memo.Byte and of the document's has, Slice, Load, Store, Byte. Conditions: none.
-/
import Derived.Test.YtbgeenkkdfbngaaMStore
namespace Go.Proofs.Ytbgeenkkdfbngaa
open Go.RowKit
attribute [local go_sem] leftBy
set_option linter.unusedSimpArgs false
set_option linter.unusedVariables false


attribute [local irreducible] lb bytesS putS loadW

set_option maxHeartbeats 4000000 in
/-- The document's has. -/
theorem ref_has (m : ByteArray) (off n : Nat) (hm : m.size ≤ maxLen) (ho : off < M64) (hn : n < M64) (w : World) :
    Calls Try.prog 28 #[.string m, .int .u64 (off : Nat), .int .u64 (n : Nat)] w fun e w' => e = .returned (.bool (decide (off + n ≤ m.size))) ∧ w' = w := by
  have hmax : maxLen = 9223372036854775807 := rfl
  by_cases h1 : n ≤ m.size
  · have h1i : (n : Int) ≤ (m.size : Int) := by omega
    have hd : decide ((off : Int) ≤ (m.size : Int) - (n : Int)) = decide (off + n ≤ m.size) := by rw [decide_eq_decide]; omega
    go_enter Try.func28, Try.ntmps28
    go_wp2
    go_ret
    exact ⟨rfl, rfl⟩
  · have h1i : ¬ (n : Int) ≤ (m.size : Int) := by omega
    have hd : decide (off + n ≤ m.size) = false := by simp; omega
    go_enter Try.func28, Try.ntmps28
    go_wp2
    go_ret
    exact ⟨rfl, rfl⟩

set_option maxHeartbeats 4000000 in
/-- The document's Slice. -/
theorem ref_Slice (m : ByteArray) (off n : Nat) (hm : m.size ≤ maxLen) (ho : off < M64) (hn : n < M64) (w : World) :
    Calls Try.prog 20 #[.string m, .int .u64 (off : Nat), .int .u64 (n : Nat)] w fun e w' => e = .returned (.tuple #[.string (sliceS m off n), .int .i64 (sliceE m off n)]) ∧ w' = w := by
  have hmax : maxLen = 9223372036854775807 := rfl
  have c1 := fun W => ref_has m off n hm ho hn W
  unfold sliceS sliceE
  by_cases h : off + n ≤ m.size
  · rw [decide_eq_true h] at c1
    rw [if_pos h, if_pos h]
    go_enter Try.func20, Try.ntmps20
    go_wp2_with (go_at_call 28; with_reducible refine (c1 _).mono ?_; rintro e _ ⟨rfl, hww⟩; obtain rfl := hww.symm)
    refine bodyPost_ret (by simp only [results, Try.results20]; go_simp; try rfl) rfl ⟨rfl, rfl⟩
  · rw [decide_eq_false h] at c1
    rw [if_neg h, if_neg h]
    go_enter Try.func20, Try.ntmps20
    go_wp2_with (go_at_call 28; with_reducible refine (c1 _).mono ?_; rintro e _ ⟨rfl, hww⟩; obtain rfl := hww.symm)
    refine bodyPost_ret (by simp only [results, Try.results20]; go_simp; try rfl) rfl ⟨rfl, rfl⟩

set_option maxHeartbeats 4000000 in
/-- The document's Store. -/
theorem ref_Store (m : ByteArray) (off a : Nat) (hm : m.size ≤ maxLen) (ho : off < M64) (ha : a < Q256) (w : World) :
    Calls Try.prog 17 #[.string m, .int .u64 (off : Nat), W4 a] w fun e w' => e = .returned (.tuple #[.string (storeS m off a), .int .i64 (fitE m off 32)]) ∧ Below w.heap.size w w' := by
  have c1 := fun W => ref_has m off 32 hm ho (by decide +kernel) W
  have hz := bytesS_size a
  have c2 := fun W => ref_Bytes a ha W
  by_cases h : off + 32 ≤ m.size
  · have c3 := fun W => ref_put m off (bytesS a) hm (by omega) W
    rw [decide_eq_true h] at c1
    rw [show storeS m off a = putS m off (bytesS a) from if_pos h, show fitE m off 32 = 0 from if_pos h]
    generalize bytesS a = s at *
    generalize putS m off s = p at *
    go_enter Try.func17, Try.ntmps17
    go_wp2_with (first | (go_at_call 28; refine (c1 _).mono ?_; rintro e _ ⟨rfl, hww⟩; obtain rfl := hww.symm) | (go_at_call 31; refine (c2 _).mono ?_; rintro e wa ⟨rfl, hb_wa⟩; have hc_wa := (bcell hb_wa).1; have hf_wa := (bcell hb_wa).2; have hz_wa : _ ≤ wa.heap.size := hb_wa.size; (try simp only [World.size_alloc, World.heap_drewN, World.size_setCell, heap_drew] at hc_wa hf_wa hz_wa); have hz_wa_w_0 : w.heap.size < wa.heap.size := (by omega)) | (go_at_call 30; with_reducible refine (c3 _).mono ?_; rintro e wb ⟨rfl, hb_wb⟩; have hc_wb := (bcell hb_wb).1; have hf_wb := (bcell hb_wb).2; have hz_wb : _ ≤ wb.heap.size := hb_wb.size; (try simp only [World.size_alloc, World.heap_drewN, World.size_setCell, heap_drew] at hc_wb hf_wb hz_wb); have hz_wb_w_0 : w.heap.size < wb.heap.size := (by omega)))
    refine bodyPost_ret (by simp only [results, Try.results17]; go_simp; try rfl) rfl ⟨rfl, ?_⟩
    repeat (with_reducible first | exact Below.refl _ _ | assumption | refine below_drewN ?_ _ | refine Below.drew ?_ | refine Below.setCell ?_ (by first | omega | (simp; done) | (simp; omega)) _ | refine Below.alloc ?_ (by first | omega | (simp; done) | (simp; omega)) _ | refine Below.trans ?_ (Below.mono (by assumption) (by first | omega | (simp; done) | (simp; omega))))
  · rw [decide_eq_false h] at c1
    rw [show storeS m off a = ⟨#[]⟩ from if_neg h, show fitE m off 32 = 2 from if_neg h]
    go_enter Try.func17, Try.ntmps17
    go_wp2_with (go_at_call 28; refine (c1 _).mono ?_; rintro e _ ⟨rfl, hww⟩; obtain rfl := hww.symm)
    refine bodyPost_ret (by simp only [results, Try.results17]; go_simp; try rfl) rfl ⟨rfl, ?_⟩
    repeat (with_reducible first | exact Below.refl _ _ | assumption | refine below_drewN ?_ _ | refine Below.drew ?_ | refine Below.setCell ?_ (by first | omega | (simp; done) | (simp; omega)) _ | refine Below.alloc ?_ (by first | omega | (simp; done) | (simp; omega)) _ | refine Below.trans ?_ (Below.mono (by assumption) (by first | omega | (simp; done) | (simp; omega))))

theorem loadW_in {m : ByteArray} {off : Nat} (h : off + 32 ≤ m.size) : loadW m off = orF (byteR (m.extract off (off + 32))) (min (m.extract off (off + 32)).size 32) := by
  unfold loadW sliceS
  rw [if_pos h]
theorem loadW_out {m : ByteArray} {off : Nat} (h : ¬ off + 32 ≤ m.size) : loadW m off = 0 := by
  unfold loadW sliceS
  rw [if_neg h]
  exact orF_zero _

set_option maxHeartbeats 4000000 in
/-- The document's Load. -/
theorem ref_Load (m : ByteArray) (off : Nat) (hm : m.size ≤ maxLen) (ho : off < M64) (w : World) :
    Calls Try.prog 16 #[.string m, .int .u64 (off : Nat)] w fun e w' => e = .returned (.tuple #[W4 (loadW m off), .int .i64 (sliceE m off 32)]) ∧ Below w.heap.size w w' := by
  have hmax : maxLen = 9223372036854775807 := rfl
  have c1 := fun W => ref_has m off 32 hm ho (by decide +kernel) W
  by_cases h : off + 32 ≤ m.size
  · rw [decide_eq_true h] at c1
    have hz : (m.extract off (off + 32)).size ≤ maxLen := by rw [ByteArray.size_extract]; omega
    have c2 := fun W => ref_From (m.extract off (off + 32)) hz W
    rw [← loadW_in h] at c2
    rw [show sliceE m off 32 = 0 from if_pos h]
    have i5 : ((off : Int) + 32).toNat = off + 32 := by omega
    have i6 : (off : Int) + 32 ≤ (m.size : Int) := by omega
    have i8 : (0 : Int) ≤ (off : Int) + 32 := by omega
    have i9 : (off : Int) ≤ (off : Int) + 32 := by omega
    generalize loadW m off = x at *
    generalize hs : m.extract off (off + 32) = s at *
    clear hz
    go_enter Try.func16, Try.ntmps16
    go_wp2_with (first | (go_at_call 28; refine (c1 _).mono ?_; rintro e _ ⟨rfl, hww⟩; obtain rfl := hww.symm) | (go_at_call 29; refine (c2 _).mono ?_; rintro e wa ⟨rfl, hb_wa⟩; have hc_wa := (bcell hb_wa).1; have hf_wa := (bcell hb_wa).2; have hz_wa : _ ≤ wa.heap.size := hb_wa.size; (try simp only [World.size_alloc, World.heap_drewN, World.size_setCell, heap_drew] at hc_wa hf_wa hz_wa); have hz_wa_w_0 : w.heap.size < wa.heap.size := (by omega)))
    refine bodyPost_ret (by simp only [results, Try.results16]; go_simp; try rfl) rfl ⟨rfl, ?_⟩
    repeat (with_reducible first | exact Below.refl _ _ | assumption | refine below_drewN ?_ _ | refine Below.drew ?_ | refine Below.setCell ?_ (by first | omega | (simp; done) | (simp; omega)) _ | refine Below.alloc ?_ (by first | omega | (simp; done) | (simp; omega)) _ | refine Below.trans ?_ (Below.mono (by assumption) (by first | omega | (simp; done) | (simp; omega))))
  · rw [decide_eq_false h] at c1
    rw [loadW_out h, show sliceE m off 32 = 2 from if_neg h, W4_zero]
    go_enter Try.func16, Try.ntmps16
    go_wp2_with (go_at_call 28; refine (c1 _).mono ?_; rintro e _ ⟨rfl, hww⟩; obtain rfl := hww.symm)
    refine bodyPost_ret (by simp only [results, Try.results16]; go_simp; try rfl) rfl ⟨rfl, ?_⟩
    repeat (with_reducible first | exact Below.refl _ _ | assumption | refine below_drewN ?_ _ | refine Below.drew ?_ | refine Below.setCell ?_ (by first | omega | (simp; done) | (simp; omega)) _ | refine Below.alloc ?_ (by first | omega | (simp; done) | (simp; omega)) _ | refine Below.trans ?_ (Below.mono (by assumption) (by first | omega | (simp; done) | (simp; omega))))

/-- Byte. -/
def oneS (b : Nat) : ByteArray := strN 1 fun _ => b
theorem oneS_size (b : Nat) : (oneS b).size = 1 := strN_size _ _
def byteS (m : ByteArray) (off b : Nat) : ByteArray := if off + 1 ≤ m.size then putS m off (oneS b) else ⟨#[]⟩

theorem string_one {W : World} {g b : Nat} (hc : W.cell? ⟨g, 0, none⟩ = some (.int .u8 (b : Nat))) : (convert 51 9 (.slice (some ⟨g, 0, none⟩) 1 1)).run Try.prog W = .ok (.string (oneS b)) W :=
  string_ofB (f := fun _ => b) fun j hj => by
    obtain rfl : j = 0 := by omega
    exact hc

attribute [local irreducible] oneS

set_option maxHeartbeats 4000000 in
theorem Byte_any (m : ByteArray) (off b : Nat) (hm : m.size ≤ maxLen) (ho : off < M64) (w : World) :
    Calls Try.prog 18 #[.string m, .int .u64 (off : Nat), .int .u8 (b : Nat)] w fun e w' => e = .returned (.tuple #[.string (byteS m off b), .int .i64 (fitE m off 1)]) ∧ Below w.heap.size w w' := by
  have c1 := fun W => has_any m off 1 hm ho (by decide +kernel) W
  have hz := oneS_size b
  by_cases h : off + 1 ≤ m.size
  · have c3 := fun W => put_any m off (oneS b) hm (by omega) (by omega) W
    rw [decide_eq_true h] at c1
    rw [show byteS m off b = putS m off (oneS b) from if_pos h, show fitE m off 1 = 0 from if_pos h]
    go_enter Try.func18, Try.ntmps18
    go_wp2_with (go_at_call 25; refine (c1 _).mono ?_; rintro e _ ⟨rfl, hww⟩; obtain rfl := hww.symm)
    rw [string_one (b := b) (by simp)]
    go_wp2_with (go_at_call 26; with_reducible refine (c3 _).mono ?_; rintro e wb ⟨rfl, hb_wb⟩; have hc_wb := (bcell hb_wb).1; have hf_wb := (bcell hb_wb).2; have hz_wb : _ ≤ wb.heap.size := hb_wb.size; (try simp only [World.size_alloc, World.heap_drewN, World.size_setCell, heap_drew] at hc_wb hf_wb hz_wb); have hz_wb_w_0 : w.heap.size < wb.heap.size := (by omega))
    refine bodyPost_ret (by simp only [results, Try.results18]; go_simp; try rfl) rfl ⟨rfl, ?_⟩
    repeat (with_reducible first | exact Below.refl _ _ | assumption | refine below_drewN ?_ _ | refine Below.drew ?_ | refine Below.setCell ?_ (by first | omega | (simp; done) | (simp; omega)) _ | refine Below.alloc ?_ (by first | omega | (simp; done) | (simp; omega)) _ | refine Below.trans ?_ (Below.mono (by assumption) (by first | omega | (simp; done) | (simp; omega))))
  · rw [decide_eq_false h] at c1
    rw [show byteS m off b = ⟨#[]⟩ from if_neg h, show fitE m off 1 = 2 from if_neg h]
    go_enter Try.func18, Try.ntmps18
    go_wp2_with (go_at_call 25; refine (c1 _).mono ?_; rintro e _ ⟨rfl, hww⟩; obtain rfl := hww.symm)
    refine bodyPost_ret (by simp only [results, Try.results18]; go_simp; try rfl) rfl ⟨rfl, ?_⟩
    repeat (with_reducible first | exact Below.refl _ _ | assumption | refine below_drewN ?_ _ | refine Below.drew ?_ | refine Below.setCell ?_ (by first | omega | (simp; done) | (simp; omega)) _ | refine Below.alloc ?_ (by first | omega | (simp; done) | (simp; omega)) _ | refine Below.trans ?_ (Below.mono (by assumption) (by first | omega | (simp; done) | (simp; omega))))

set_option maxHeartbeats 4000000 in
theorem ref_Byte (m : ByteArray) (off b : Nat) (hm : m.size ≤ maxLen) (ho : off < M64) (w : World) :
    Calls Try.prog 19 #[.string m, .int .u64 (off : Nat), .int .u8 (b : Nat)] w fun e w' => e = .returned (.tuple #[.string (byteS m off b), .int .i64 (fitE m off 1)]) ∧ Below w.heap.size w w' := by
  have c1 := fun W => ref_has m off 1 hm ho (by decide +kernel) W
  have hz := oneS_size b
  by_cases h : off + 1 ≤ m.size
  · have c3 := fun W => ref_put m off (oneS b) hm (by omega) W
    rw [decide_eq_true h] at c1
    rw [show byteS m off b = putS m off (oneS b) from if_pos h, show fitE m off 1 = 0 from if_pos h]
    go_enter Try.func19, Try.ntmps19
    go_wp2_with (go_at_call 28; refine (c1 _).mono ?_; rintro e _ ⟨rfl, hww⟩; obtain rfl := hww.symm)
    rw [string_one (b := b) (by simp)]
    go_wp2_with (go_at_call 30; with_reducible refine (c3 _).mono ?_; rintro e wb ⟨rfl, hb_wb⟩; have hc_wb := (bcell hb_wb).1; have hf_wb := (bcell hb_wb).2; have hz_wb : _ ≤ wb.heap.size := hb_wb.size; (try simp only [World.size_alloc, World.heap_drewN, World.size_setCell, heap_drew] at hc_wb hf_wb hz_wb); have hz_wb_w_0 : w.heap.size < wb.heap.size := (by omega))
    refine bodyPost_ret (by simp only [results, Try.results19]; go_simp; try rfl) rfl ⟨rfl, ?_⟩
    repeat (with_reducible first | exact Below.refl _ _ | assumption | refine below_drewN ?_ _ | refine Below.drew ?_ | refine Below.setCell ?_ (by first | omega | (simp; done) | (simp; omega)) _ | refine Below.alloc ?_ (by first | omega | (simp; done) | (simp; omega)) _ | refine Below.trans ?_ (Below.mono (by assumption) (by first | omega | (simp; done) | (simp; omega))))
  · rw [decide_eq_false h] at c1
    rw [show byteS m off b = ⟨#[]⟩ from if_neg h, show fitE m off 1 = 2 from if_neg h]
    go_enter Try.func19, Try.ntmps19
    go_wp2_with (go_at_call 28; refine (c1 _).mono ?_; rintro e _ ⟨rfl, hww⟩; obtain rfl := hww.symm)
    refine bodyPost_ret (by simp only [results, Try.results19]; go_simp; try rfl) rfl ⟨rfl, ?_⟩
    repeat (with_reducible first | exact Below.refl _ _ | assumption | refine below_drewN ?_ _ | refine Below.drew ?_ | refine Below.setCell ?_ (by first | omega | (simp; done) | (simp; omega)) _ | refine Below.alloc ?_ (by first | omega | (simp; done) | (simp; omega)) _ | refine Below.trans ?_ (Below.mono (by assumption) (by first | omega | (simp; done) | (simp; omega))))

end Go.Proofs.Ytbgeenkkdfbngaa
