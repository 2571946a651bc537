/-
  The contract of shown. Conditions: none.
-/
import Derived.Test.YtjdhkdmcglnihaaCSame
namespace Go.Proofs.Ytjdhkdmcglnihaa
open Go.RowKit Go.Shelf
attribute [local go_sem] leftBy
set_option linter.unusedSimpArgs false
set_option linter.unusedVariables false


theorem jumps_shown : jumpsN (⟨#[96, 91, 91]⟩ : ByteArray) = [2] := by decide +kernel
theorem data_shown : dataS (⟨#[97, 255]⟩ : ByteArray) 0 (nD (byteD ⟨#[97, 255]⟩ 0)) = ⟨#[255, 0]⟩ := by decide +kernel
theorem op_shown : byteD (⟨#[97, 255]⟩ : ByteArray) 0 = 97 := by decide +kernel
theorem nD_shown : nD (byteD (⟨#[97, 255]⟩ : ByteArray) 0) = 2 := by decide +kernel

theorem At_shown (w : World) : Calls Try.prog 9 #[.string ⟨#[97, 255]⟩, .int .i64 0] w fun e w' => e = .returned (.tuple #[.int .u8 97, .string ⟨#[255, 0]⟩, .int .i64 3]) ∧ Below w.heap.size w w' := by
  have h := At_in (⟨#[97, 255]⟩ : ByteArray) 0 (by decide) (by decide) (by show 2 ≤ _; unfold maxLen; omega) w
  rw [data_shown, nD_shown, op_shown] at h
  exact h

theorem Jumps_shown (w : World) : Calls Try.prog 12 #[.string ⟨#[96, 91, 91]⟩] w fun e w' => ∃ g cap, e = .returned (.slice (some ⟨g, 0, none⟩) 1 cap) ∧ w.heap.size ≤ g ∧ g < w'.heap.size ∧ 1 ≤ cap ∧ w'.cell? ⟨g, 0, none⟩ = some (.int .i64 2) ∧ Below w.heap.size w w' := by
  refine (Jumps_any (⟨#[96, 91, 91]⟩ : ByteArray) (by show 3 ≤ _; omega) w).mono ?_
  rintro e w' ⟨v, rfl, hrow, hb⟩
  rw [jumps_shown] at hrow
  have hr := hrow
  obtain ⟨g, cap, rfl⟩ := ownsRow_succ hrow
  rcases hr.2 with ⟨h0, _⟩ | ⟨g', cap', cur, hv, hb2, hg, hn, _⟩
  · cases h0
  · cases hv
    exact ⟨g, cap, rfl, hb2, (Array.getElem?_eq_some_iff.1 hg).1, hn, hrow.cellAt 0 (by decide), hb⟩

set_option maxHeartbeats 4000000 in
/-- shown. -/
theorem shown_any (w : World) : Calls Try.prog 8 #[] w fun e w' => e = .returned (.bool true) ∧ Below w.heap.size w w' := by
  go_enter Try.func8, Try.ntmps8
  go_wp2_with (first | (go_at_call 12; (with_reducible refine (Jumps_shown _).mono ?_); rintro e wa ⟨g, cap, rfl, hg1, hg2, hcap, hcell, hb_wa⟩; have hsz := hb_wa.size; have hcapi : (1 : Int) ≤ (cap : Int) := (by omega)) | (go_at_call 9; (with_reducible refine (At_shown _).mono ?_); rintro e wb ⟨rfl, hb_wb⟩; have hcell2 := (hb_wb.cell (p := ⟨g, 0, none⟩) hg2).trans hcell; have hc_wb := (bcell hb_wb).1; have hf_wb := (bcell hb_wb).2; have hz_wb : _ ≤ wb.heap.size := hb_wb.size; (try simp only [World.size_alloc, World.heap_drewN, World.size_setCell, heap_drew] at hc_wb hf_wb hz_wb)))
  go_ret
  refine ⟨rfl, ?_⟩
  repeat (with_reducible first | exact Below.refl _ _ | assumption | refine below_drewN ?_ _ | refine Below.drew ?_ | refine Below.setCell ?_ (by first | omega | (simp; done) | (simp; omega)) _ | refine Below.alloc ?_ (by first | omega | (simp; done) | (simp; omega)) _ | refine Below.trans ?_ (Below.mono (by assumption) (by first | omega | (simp; done) | (simp; omega))))
end Go.Proofs.Ytjdhkdmcglnihaa
