/-
  The walks of the laws of Keccak. Conditions: the three tables stand in their blocks.
-/
import Derived.Test.YtppgdfadjagcgaaDoorKNone
import Derived.Test.YtppgdfadjagcgaaDoorKSumR
namespace Go.Proofs.YtppgdfadjagcgaaDoor
open Go.RowKit
attribute [local go_sem] leftBy
set_option linter.unusedSimpArgs false
set_option linter.unusedVariables false


attribute [local irreducible] digS catB

set_option maxHeartbeats 4000000 in
/-- shown. -/
theorem shown_any (w : World) (hw : 3 ≤ w.heap.size) (hT : KT w) :
    Calls Tryd.prog 5 #[] w fun e w' => e = .returned (.bool true) ∧ Below w.heap.size w w' := by
  have hds := digS_size ⟨#[]⟩
  have hh := none_head
  have hcat : catB [⟨#[]⟩, ⟨#[]⟩] = ⟨#[]⟩ := by
    rw [catB_two]
    rfl
  have cS : ∀ (o : Obj), o = .cells #[.string ⟨#[]⟩, .string ⟨#[]⟩] 9 (0, 0) → Calls Tryd.prog 7 #[.slice (some ⟨w.heap.size, 0, none⟩) 2 2] (w.alloc o) fun e w' => e = .returned (.string (digS ⟨#[]⟩)) ∧ Below (w.alloc o).heap.size (w.alloc o) w' := fun o ho => by
    subst ho
    have hb : Below w.heap.size w (w.alloc (.cells #[.string ⟨#[]⟩, .string ⟨#[]⟩] 9 (0, 0))) := (Below.refl _ _).alloc (Nat.le_refl _) _
    have := Sum_strs (.slice (some ⟨w.heap.size, 0, none⟩) 2 2) [⟨#[]⟩, ⟨#[]⟩] (w.alloc (.cells #[.string ⟨#[]⟩, .string ⟨#[]⟩] 9 (0, 0))) (.inr ⟨_, _, _, rfl, Nat.le_refl _, by decide, by simp, fun j x hx => by
      match j, hx with
      | 0, hx => simp at hx; subst hx; simp
      | 1, hx => simp at hx; subst hx; simp⟩) (by decide) (by rw [hcat]; decide) (by simp; omega) (hT.below hb hw)
    rwa [hcat] at this
  go_enter Tryd.func5, Tryd.ntmps5
  go_wp2_with (go_at_call 7; refine (cS _ rfl).mono ?_; rintro e wa ⟨rfl, hb_wa⟩)
  go_ret
  refine ⟨rfl, ?_⟩
  repeat (with_reducible first | exact Below.refl _ _ | assumption | refine below_drewN ?_ _ | refine Below.drew ?_ | refine Below.setCell ?_ (by first | omega | (simp; done) | (simp; omega)) _ | refine Below.alloc ?_ (by first | omega | (simp; done) | (simp; omega)) _ | refine Below.trans ?_ (Below.mono (by assumption) (by first | omega | (simp; done) | (simp; omega))))

theorem strV.take {W : World} {v : Value} {xs : List ByteArray} (h : strV W v xs) : ∃ ao c, v = .slice ao xs.length c ∧ xs.length ≤ c ∧ ∀ k, k ≤ xs.length → strV W (.slice ao k c) (xs.take k) := by
  rcases h with ⟨a, c, rfl, rfl⟩ | ⟨b, o, c, rfl, hc, h0, hlt, hcell⟩
  · exact ⟨a, c, rfl, Nat.zero_le _, fun k hk => .inl ⟨a, c, by rw [show k = 0 by simpa using hk], by simp⟩⟩
  · refine ⟨_, c, rfl, hc, fun k hk => ?_⟩
    by_cases hk0 : k = 0
    · exact .inl ⟨_, c, by rw [hk0], by rw [hk0, List.take_zero]⟩
    · refine .inr ⟨b, o, c, by rw [List.length_take, Nat.min_eq_left hk], by rw [List.length_take]; omega, by rw [List.length_take]; omega, hlt, fun j x hx => hcell j x ?_⟩
      rw [List.getElem?_take] at hx
      split at hx
      · exact hx
      · cases hx


theorem catB_bound {xs : List ByteArray} {M : Nat} (hx : ∀ x ∈ xs, x.size ≤ M) (k : Nat) : (catB (xs.take k)).size ≤ k * M := by
  induction k with
  | zero =>
    have h0 : (⟨#[]⟩ : ByteArray).size = 0 := rfl
    rw [List.take_zero, catB_nil, h0]
    exact Nat.zero_le _
  | succ k ih =>
    rw [Nat.succ_mul]
    by_cases hk : k < xs.length
    · rw [← List.take_append_getElem hk, catB_snoc, ByteArray.size_append]
      exact Nat.add_le_add ih (hx xs[k] (List.getElem_mem hk))
    · rw [List.take_of_length_le (by omega)] at *
      exact Nat.le_trans ih (Nat.le_add_right _ _)

set_option maxHeartbeats 4000000 in
/-- KeccakSums. -/
theorem walk_sums (v : Value) (xs : List ByteArray) (hx : ∀ x ∈ xs, x.size ≤ 140737488355328) (w : World) (hv : strV w v xs) (hw : 3 ≤ w.heap.size) (hT : KT w) :
    Calls Tryd.prog 3 #[v] w fun e w' => e = .returned (.bool true) ∧ Below w.heap.size w w' := by
  obtain ⟨ao, c, rfl, hnc, htk⟩ := hv.take
  have hsz := fun k => catB_bound hx k
  obtain ⟨k, hk⟩ : ∃ k, k = min xs.length 100 := ⟨_, rfl⟩
  have hkl : k ≤ xs.length := by omega
  have hk100 : k ≤ 100 := by omega
  have hvk := htk k hkl
  clear htk
  have hys := hsz k
  have hyl : (xs.take k).length = k := by rw [List.length_take, Nat.min_eq_left hkl]
  have hmk : (min (xs.length : Int) 100).toNat = k := by omega
  generalize hyy : xs.take k = ys at *
  clear hyy hsz hx hk hv
  generalize xs.length = n at *
  have hys2 : (catB ys).size ≤ 4611686018427387904 := by omega
  have hyl2 : ys.length ≤ 1000 := by omega
  clear hys hyl
  go_enter Tryd.func3, Tryd.ntmps3
  by_cases hbig : 100000 < (catB ys).size
  · have hbi : (100000 : Int) < ((catB ys).size : Int) := by omega
    go_wp2_with (first
      | (go_at_call 5; refine (shown_any _ hw hT).mono ?_; rintro e wa ⟨rfl, hb_wa⟩)
      | (go_at_call 6; refine (joined_strs _ ys _ (hvk.below hb_wa) hyl2 hys2).mono ?_; rintro e wb ⟨rfl, hb_wb⟩))
    go_ret
    exact ⟨rfl, hb_wa.trans (hb_wb.mono hb_wa.size)⟩
  · have hbi : ¬ (100000 : Int) < ((catB ys).size : Int) := by omega
    have hsm : (catB ys).size ≤ 200000 := by omega
    go_wp2_with (first
      | (go_at_call 5; refine (shown_any _ hw hT).mono ?_; rintro e wa ⟨rfl, hb_wa⟩; have hwa : 3 ≤ wa.heap.size := Nat.le_trans hw hb_wa.size; have hTa := hT.below hb_wa hw)
      | (go_at_call 6; refine (joined_strs _ ys _ (hvk.below hb_wa) hyl2 hys2).mono ?_; rintro e wb ⟨rfl, hb_wb⟩; have hwb : 3 ≤ wb.heap.size := Nat.le_trans hwa hb_wb.size; have hTb := hTa.below hb_wb hwa; have hvb := (hvk.below hb_wa).below hb_wb)
      | (go_at_call 7; refine (Sum_strs _ ys _ hvb (by omega) hsm hwb hTb).mono ?_; rintro e wc ⟨rfl, hb_wc⟩)
      | (go_at_call 8; refine (ref_Sum _ hsm _).mono ?_; rintro e wd ⟨rfl, hb_wd⟩))
    go_ret
    exact ⟨rfl, hb_wa.trans ((hb_wb.trans ((hb_wc.trans (hb_wd.mono hb_wc.size)).mono hb_wb.size)).mono hb_wa.size)⟩
end Go.Proofs.YtppgdfadjagcgaaDoor
