/-
  The contracts of the document's among, arithmetic, outside, alone, Of. Conditions: none.
-/
import Derived.Test.YtjdhkdmcglnihaaCInfo
namespace Go.Proofs.Ytjdhkdmcglnihaa
open Go.RowKit Go.Shelf
attribute [local go_sem] leftBy
set_option linter.unusedSimpArgs false
set_option linter.unusedVariables false


def rowA (p : (Nat × Nat × Nat) × Bool) : Value := .agg #[.int .i64 (p.1.1 : Nat), .int .i64 (p.1.2.1 : Nat), .int .u64 (p.1.2.2 : Nat), .bool p.2]

theorem hasB_yes {b k : Nat} {s : ByteArray} (hk : k < s.size) (h : byteD s k = b) : hasB b s = true := by
  unfold hasB
  rw [List.any_eq_true]
  have hl : k < s.data.toList.length := by simpa using hk
  refine ⟨s.data.toList[k], List.getElem_mem hl, ?_⟩
  rw [← h]
  unfold byteD
  rw [List.getD_eq_getElem?_getD, List.getElem?_eq_getElem hl]
  simp
theorem hasB_no {b : Nat} {s : ByteArray} (h : ∀ k, k < s.size → byteD s k ≠ b) : hasB b s = false := by
  rw [← Bool.not_eq_true]
  intro h2
  unfold hasB at h2
  rw [List.any_eq_true] at h2
  obtain ⟨x, hx, hb⟩ := h2
  obtain ⟨k, hk, rfl⟩ := List.getElem_of_mem hx
  have hk2 : k < s.size := by simpa using hk
  refine h k hk2 ?_
  unfold byteD
  rw [List.getD_eq_getElem?_getD, List.getElem?_eq_getElem hk]
  simpa using hb

set_option maxHeartbeats 4000000 in
theorem among_any (b : Nat) (s : ByteArray) (hs : s.size ≤ 100) (w : World) :
    Calls Try.prog 31 #[.int .u8 (b : Nat), .string s] w fun e w' => e = .returned (.bool (hasB b s)) ∧ w' = w := by
  go_enter Try.func31, Try.ntmps31
  go_wp2
  go_loopw [5] (fun i wr => ∃ k : Nat, k ≤ s.size ∧ i = .int .i64 k ∧ wr = w ∧ ∀ j, j < k → byteD s j ≠ b) (fun i _ => s.size - (intOf i).toNat)
  case atStart => exact ⟨0, by omega, by go_num, rfl, fun j hj => by omega⟩
  case round =>
    obtain ⟨k, hk, rfl, rfl, hne⟩ := hrel
    by_cases hks : k < s.size
    · have hki : (k : Int) < (s.size : Int) := by omega
      have hix := fun W => index_d s k hks W
      by_cases hb : byteD s k = b
      · have hy := hasB_yes hks hb
        rw [hb] at hix
        clear hne
        go_wp2
        go_ret
        exact ⟨by first | (rw [hy]; rfl) | rfl, rfl⟩
      · have hbi : (((byteD s k : Nat) : Int) == (b : Int)) = false := beq_eq_false_iff_ne.2 (by omega)
        replace hne := Lib.hid (show ∀ j, j < k + 1 → byteD s j ≠ b from fun j hj => by
          by_cases e : j = k
          · rw [e]; exact hb
          · exact hne j (by omega))
        generalize hB : byteD s k = B at *
        clear hB
        go_wp2
        go_roundw
        case rel => exact ⟨k + 1, by omega, by go_num, by first | rfl | trivial, hne.out⟩
        case measure => simp [intOf]; omega
    · have hki : ¬ (k : Int) < (s.size : Int) := by omega
      have hn := hasB_no (b := b) (s := s) (fun j hj => hne j (by omega))
      clear hne
      go_wp2
      go_ret
      exact ⟨by first | (rw [hn]; rfl) | rfl, rfl⟩

def arithF (b : Nat) : (Nat × Nat × Nat) × Bool :=
  if hasB b (⟨#[1, 3, 16, 17, 18, 19, 20, 22, 23, 24, 26, 27, 28, 29]⟩ : ByteArray) = true then ((2, 1, 3), true) else if hasB b (⟨#[2, 4, 5, 6, 7, 11]⟩ : ByteArray) = true then ((2, 1, 5), true) else if hasB b (⟨#[8, 9]⟩ : ByteArray) = true then ((3, 1, 8), true) else if hasB b (⟨#[21, 25, 53, 81]⟩ : ByteArray) = true then ((1, 1, 3), true) else if b = 0 ∨ b = 254 then ((0, 0, 0), true) else if b = 10 then ((2, 1, 10), true) else if b = 32 then ((2, 1, 30), true) else ((0, 0, 0), false)
def outF (b : Nat) : (Nat × Nat × Nat) × Bool :=
  if hasB b (⟨#[48, 50, 51, 52, 54, 56, 61, 67, 88, 89, 90, 95]⟩ : ByteArray) = true then ((0, 1, 2), true) else if hasB b (⟨#[49, 59, 63, 84]⟩ : ByteArray) = true then ((1, 1, 0), true) else if hasB b (⟨#[55, 57, 62, 94]⟩ : ByteArray) = true then ((3, 0, 3), true) else if hasB b (⟨#[85, 243, 253]⟩ : ByteArray) = true then ((2, 0, 0), true) else if hasB b (⟨#[82, 83]⟩ : ByteArray) = true then ((2, 0, 3), true) else if hasB b (⟨#[244, 250]⟩ : ByteArray) = true then ((6, 1, 0), true) else ((0, 0, 0), false)
def aloneF (b : Nat) : (Nat × Nat × Nat) × Bool :=
  if b = 71 then ((0, 1, 5), true) else if b = 80 then ((1, 0, 2), true) else if b = 86 then ((1, 0, 8), true) else if b = 87 then ((2, 0, 10), true) else if b = 91 then ((0, 0, 1), true) else if b = 92 then ((1, 1, 100), true) else if b = 93 then ((2, 0, 100), true) else if b = 241 then ((7, 1, 0), true) else ((0, 0, 0), false)

set_option maxRecDepth 100000 in
set_option maxHeartbeats 16000000 in
theorem arith_any (b : Nat) (w : World) :
    Calls Try.prog 20 #[.int .u8 (b : Nat)] w fun e w' => e = .returned (rowA (arithF b)) ∧ Below w.heap.size w w' := by
  have cA := fun s hs W => among_any b s hs W
  unfold arithF
  by_cases h0 : hasB b (⟨#[1, 3, 16, 17, 18, 19, 20, 22, 23, 24, 26, 27, 28, 29]⟩ : ByteArray) = true
  · rw [if_pos h0]
    go_enter Try.func20, Try.ntmps20
    go_wp2_with (go_at_call 31; refine (cA _ (by show _ ≤ _; decide) _).mono ?_; rintro e _ ⟨rfl, hww⟩; obtain rfl := hww.symm)
    refine bodyPost_ret (by simp only [results, Try.results20]; go_simp; try rfl) rfl ⟨rfl, ?_⟩
    repeat (with_reducible first | exact Below.refl _ _ | assumption | refine below_drewN ?_ _ | refine Below.drew ?_ | refine Below.setCell ?_ (by first | omega | (simp; done) | (simp; omega)) _ | refine Below.alloc ?_ (by first | omega | (simp; done) | (simp; omega)) _ | refine Below.trans ?_ (Below.mono (by assumption) (by first | omega | (simp; done) | (simp; omega))))
  · rw [if_neg h0]
    replace h0 : hasB b (⟨#[1, 3, 16, 17, 18, 19, 20, 22, 23, 24, 26, 27, 28, 29]⟩ : ByteArray) = false := by simpa using h0
    by_cases h1 : hasB b (⟨#[2, 4, 5, 6, 7, 11]⟩ : ByteArray) = true
    · rw [if_pos h1]
      go_enter Try.func20, Try.ntmps20
      go_wp2_with (go_at_call 31; refine (cA _ (by show _ ≤ _; decide) _).mono ?_; rintro e _ ⟨rfl, hww⟩; obtain rfl := hww.symm)
      refine bodyPost_ret (by simp only [results, Try.results20]; go_simp; try rfl) rfl ⟨rfl, ?_⟩
      repeat (with_reducible first | exact Below.refl _ _ | assumption | refine below_drewN ?_ _ | refine Below.drew ?_ | refine Below.setCell ?_ (by first | omega | (simp; done) | (simp; omega)) _ | refine Below.alloc ?_ (by first | omega | (simp; done) | (simp; omega)) _ | refine Below.trans ?_ (Below.mono (by assumption) (by first | omega | (simp; done) | (simp; omega))))
    · rw [if_neg h1]
      replace h1 : hasB b (⟨#[2, 4, 5, 6, 7, 11]⟩ : ByteArray) = false := by simpa using h1
      by_cases h2 : hasB b (⟨#[8, 9]⟩ : ByteArray) = true
      · rw [if_pos h2]
        go_enter Try.func20, Try.ntmps20
        go_wp2_with (go_at_call 31; refine (cA _ (by show _ ≤ _; decide) _).mono ?_; rintro e _ ⟨rfl, hww⟩; obtain rfl := hww.symm)
        refine bodyPost_ret (by simp only [results, Try.results20]; go_simp; try rfl) rfl ⟨rfl, ?_⟩
        repeat (with_reducible first | exact Below.refl _ _ | assumption | refine below_drewN ?_ _ | refine Below.drew ?_ | refine Below.setCell ?_ (by first | omega | (simp; done) | (simp; omega)) _ | refine Below.alloc ?_ (by first | omega | (simp; done) | (simp; omega)) _ | refine Below.trans ?_ (Below.mono (by assumption) (by first | omega | (simp; done) | (simp; omega))))
      · rw [if_neg h2]
        replace h2 : hasB b (⟨#[8, 9]⟩ : ByteArray) = false := by simpa using h2
        by_cases h3 : hasB b (⟨#[21, 25, 53, 81]⟩ : ByteArray) = true
        · rw [if_pos h3]
          go_enter Try.func20, Try.ntmps20
          go_wp2_with (go_at_call 31; refine (cA _ (by show _ ≤ _; decide) _).mono ?_; rintro e _ ⟨rfl, hww⟩; obtain rfl := hww.symm)
          refine bodyPost_ret (by simp only [results, Try.results20]; go_simp; try rfl) rfl ⟨rfl, ?_⟩
          repeat (with_reducible first | exact Below.refl _ _ | assumption | refine below_drewN ?_ _ | refine Below.drew ?_ | refine Below.setCell ?_ (by first | omega | (simp; done) | (simp; omega)) _ | refine Below.alloc ?_ (by first | omega | (simp; done) | (simp; omega)) _ | refine Below.trans ?_ (Below.mono (by assumption) (by first | omega | (simp; done) | (simp; omega))))
        · rw [if_neg h3]
          replace h3 : hasB b (⟨#[21, 25, 53, 81]⟩ : ByteArray) = false := by simpa using h3
          by_cases e4 : b = 0 ∨ b = 254
          · rw [if_pos e4]
            rcases e4 with rfl | rfl
            · skip
              go_enter Try.func20, Try.ntmps20
              go_wp2_with (go_at_call 31; refine (cA _ (by show _ ≤ _; decide) _).mono ?_; rintro e _ ⟨rfl, hww⟩; obtain rfl := hww.symm)
              refine bodyPost_ret (by simp only [results, Try.results20]; go_simp; try rfl) rfl ⟨rfl, ?_⟩
              repeat (with_reducible first | exact Below.refl _ _ | assumption | refine below_drewN ?_ _ | refine Below.drew ?_ | refine Below.setCell ?_ (by first | omega | (simp; done) | (simp; omega)) _ | refine Below.alloc ?_ (by first | omega | (simp; done) | (simp; omega)) _ | refine Below.trans ?_ (Below.mono (by assumption) (by first | omega | (simp; done) | (simp; omega))))
            · skip
              go_enter Try.func20, Try.ntmps20
              go_wp2_with (go_at_call 31; refine (cA _ (by show _ ≤ _; decide) _).mono ?_; rintro e _ ⟨rfl, hww⟩; obtain rfl := hww.symm)
              refine bodyPost_ret (by simp only [results, Try.results20]; go_simp; try rfl) rfl ⟨rfl, ?_⟩
              repeat (with_reducible first | exact Below.refl _ _ | assumption | refine below_drewN ?_ _ | refine Below.drew ?_ | refine Below.setCell ?_ (by first | omega | (simp; done) | (simp; omega)) _ | refine Below.alloc ?_ (by first | omega | (simp; done) | (simp; omega)) _ | refine Below.trans ?_ (Below.mono (by assumption) (by first | omega | (simp; done) | (simp; omega))))
          · rw [if_neg e4]
            have q0 : (((b : Nat) : Int) == 0) = false := beq_eq_false_iff_ne.2 (by omega)
            have q254 : (((b : Nat) : Int) == 254) = false := beq_eq_false_iff_ne.2 (by omega)
            by_cases e5 : b = 10
            · rw [if_pos e5]
              subst e5
              go_enter Try.func20, Try.ntmps20
              go_wp2_with (go_at_call 31; refine (cA _ (by show _ ≤ _; decide) _).mono ?_; rintro e _ ⟨rfl, hww⟩; obtain rfl := hww.symm)
              refine bodyPost_ret (by simp only [results, Try.results20]; go_simp; try rfl) rfl ⟨rfl, ?_⟩
              repeat (with_reducible first | exact Below.refl _ _ | assumption | refine below_drewN ?_ _ | refine Below.drew ?_ | refine Below.setCell ?_ (by first | omega | (simp; done) | (simp; omega)) _ | refine Below.alloc ?_ (by first | omega | (simp; done) | (simp; omega)) _ | refine Below.trans ?_ (Below.mono (by assumption) (by first | omega | (simp; done) | (simp; omega))))
            · rw [if_neg e5]
              have q10 : (((b : Nat) : Int) == 10) = false := beq_eq_false_iff_ne.2 (by omega)
              by_cases e6 : b = 32
              · rw [if_pos e6]
                subst e6
                go_enter Try.func20, Try.ntmps20
                go_wp2_with (go_at_call 31; refine (cA _ (by show _ ≤ _; decide) _).mono ?_; rintro e _ ⟨rfl, hww⟩; obtain rfl := hww.symm)
                refine bodyPost_ret (by simp only [results, Try.results20]; go_simp; try rfl) rfl ⟨rfl, ?_⟩
                repeat (with_reducible first | exact Below.refl _ _ | assumption | refine below_drewN ?_ _ | refine Below.drew ?_ | refine Below.setCell ?_ (by first | omega | (simp; done) | (simp; omega)) _ | refine Below.alloc ?_ (by first | omega | (simp; done) | (simp; omega)) _ | refine Below.trans ?_ (Below.mono (by assumption) (by first | omega | (simp; done) | (simp; omega))))
              · rw [if_neg e6]
                have q32 : (((b : Nat) : Int) == 32) = false := beq_eq_false_iff_ne.2 (by omega)
                go_enter Try.func20, Try.ntmps20
                go_wp2_with (go_at_call 31; refine (cA _ (by show _ ≤ _; decide) _).mono ?_; rintro e _ ⟨rfl, hww⟩; obtain rfl := hww.symm)
                refine bodyPost_ret (by simp only [results, Try.results20]; go_simp; try rfl) rfl ⟨rfl, ?_⟩
                repeat (with_reducible first | exact Below.refl _ _ | assumption | refine below_drewN ?_ _ | refine Below.drew ?_ | refine Below.setCell ?_ (by first | omega | (simp; done) | (simp; omega)) _ | refine Below.alloc ?_ (by first | omega | (simp; done) | (simp; omega)) _ | refine Below.trans ?_ (Below.mono (by assumption) (by first | omega | (simp; done) | (simp; omega))))

set_option maxRecDepth 100000 in
set_option maxHeartbeats 16000000 in
theorem out_any (b : Nat) (w : World) :
    Calls Try.prog 21 #[.int .u8 (b : Nat)] w fun e w' => e = .returned (rowA (outF b)) ∧ Below w.heap.size w w' := by
  have cA := fun s hs W => among_any b s hs W
  unfold outF
  by_cases h0 : hasB b (⟨#[48, 50, 51, 52, 54, 56, 61, 67, 88, 89, 90, 95]⟩ : ByteArray) = true
  · rw [if_pos h0]
    go_enter Try.func21, Try.ntmps21
    go_wp2_with (go_at_call 31; refine (cA _ (by show _ ≤ _; decide) _).mono ?_; rintro e _ ⟨rfl, hww⟩; obtain rfl := hww.symm)
    refine bodyPost_ret (by simp only [results, Try.results21]; go_simp; try rfl) rfl ⟨rfl, ?_⟩
    repeat (with_reducible first | exact Below.refl _ _ | assumption | refine below_drewN ?_ _ | refine Below.drew ?_ | refine Below.setCell ?_ (by first | omega | (simp; done) | (simp; omega)) _ | refine Below.alloc ?_ (by first | omega | (simp; done) | (simp; omega)) _ | refine Below.trans ?_ (Below.mono (by assumption) (by first | omega | (simp; done) | (simp; omega))))
  · rw [if_neg h0]
    replace h0 : hasB b (⟨#[48, 50, 51, 52, 54, 56, 61, 67, 88, 89, 90, 95]⟩ : ByteArray) = false := by simpa using h0
    by_cases h1 : hasB b (⟨#[49, 59, 63, 84]⟩ : ByteArray) = true
    · rw [if_pos h1]
      go_enter Try.func21, Try.ntmps21
      go_wp2_with (go_at_call 31; refine (cA _ (by show _ ≤ _; decide) _).mono ?_; rintro e _ ⟨rfl, hww⟩; obtain rfl := hww.symm)
      refine bodyPost_ret (by simp only [results, Try.results21]; go_simp; try rfl) rfl ⟨rfl, ?_⟩
      repeat (with_reducible first | exact Below.refl _ _ | assumption | refine below_drewN ?_ _ | refine Below.drew ?_ | refine Below.setCell ?_ (by first | omega | (simp; done) | (simp; omega)) _ | refine Below.alloc ?_ (by first | omega | (simp; done) | (simp; omega)) _ | refine Below.trans ?_ (Below.mono (by assumption) (by first | omega | (simp; done) | (simp; omega))))
    · rw [if_neg h1]
      replace h1 : hasB b (⟨#[49, 59, 63, 84]⟩ : ByteArray) = false := by simpa using h1
      by_cases h2 : hasB b (⟨#[55, 57, 62, 94]⟩ : ByteArray) = true
      · rw [if_pos h2]
        go_enter Try.func21, Try.ntmps21
        go_wp2_with (go_at_call 31; refine (cA _ (by show _ ≤ _; decide) _).mono ?_; rintro e _ ⟨rfl, hww⟩; obtain rfl := hww.symm)
        refine bodyPost_ret (by simp only [results, Try.results21]; go_simp; try rfl) rfl ⟨rfl, ?_⟩
        repeat (with_reducible first | exact Below.refl _ _ | assumption | refine below_drewN ?_ _ | refine Below.drew ?_ | refine Below.setCell ?_ (by first | omega | (simp; done) | (simp; omega)) _ | refine Below.alloc ?_ (by first | omega | (simp; done) | (simp; omega)) _ | refine Below.trans ?_ (Below.mono (by assumption) (by first | omega | (simp; done) | (simp; omega))))
      · rw [if_neg h2]
        replace h2 : hasB b (⟨#[55, 57, 62, 94]⟩ : ByteArray) = false := by simpa using h2
        by_cases h3 : hasB b (⟨#[85, 243, 253]⟩ : ByteArray) = true
        · rw [if_pos h3]
          go_enter Try.func21, Try.ntmps21
          go_wp2_with (go_at_call 31; refine (cA _ (by show _ ≤ _; decide) _).mono ?_; rintro e _ ⟨rfl, hww⟩; obtain rfl := hww.symm)
          refine bodyPost_ret (by simp only [results, Try.results21]; go_simp; try rfl) rfl ⟨rfl, ?_⟩
          repeat (with_reducible first | exact Below.refl _ _ | assumption | refine below_drewN ?_ _ | refine Below.drew ?_ | refine Below.setCell ?_ (by first | omega | (simp; done) | (simp; omega)) _ | refine Below.alloc ?_ (by first | omega | (simp; done) | (simp; omega)) _ | refine Below.trans ?_ (Below.mono (by assumption) (by first | omega | (simp; done) | (simp; omega))))
        · rw [if_neg h3]
          replace h3 : hasB b (⟨#[85, 243, 253]⟩ : ByteArray) = false := by simpa using h3
          by_cases h4 : hasB b (⟨#[82, 83]⟩ : ByteArray) = true
          · rw [if_pos h4]
            go_enter Try.func21, Try.ntmps21
            go_wp2_with (go_at_call 31; refine (cA _ (by show _ ≤ _; decide) _).mono ?_; rintro e _ ⟨rfl, hww⟩; obtain rfl := hww.symm)
            refine bodyPost_ret (by simp only [results, Try.results21]; go_simp; try rfl) rfl ⟨rfl, ?_⟩
            repeat (with_reducible first | exact Below.refl _ _ | assumption | refine below_drewN ?_ _ | refine Below.drew ?_ | refine Below.setCell ?_ (by first | omega | (simp; done) | (simp; omega)) _ | refine Below.alloc ?_ (by first | omega | (simp; done) | (simp; omega)) _ | refine Below.trans ?_ (Below.mono (by assumption) (by first | omega | (simp; done) | (simp; omega))))
          · rw [if_neg h4]
            replace h4 : hasB b (⟨#[82, 83]⟩ : ByteArray) = false := by simpa using h4
            by_cases h5 : hasB b (⟨#[244, 250]⟩ : ByteArray) = true
            · rw [if_pos h5]
              go_enter Try.func21, Try.ntmps21
              go_wp2_with (go_at_call 31; refine (cA _ (by show _ ≤ _; decide) _).mono ?_; rintro e _ ⟨rfl, hww⟩; obtain rfl := hww.symm)
              refine bodyPost_ret (by simp only [results, Try.results21]; go_simp; try rfl) rfl ⟨rfl, ?_⟩
              repeat (with_reducible first | exact Below.refl _ _ | assumption | refine below_drewN ?_ _ | refine Below.drew ?_ | refine Below.setCell ?_ (by first | omega | (simp; done) | (simp; omega)) _ | refine Below.alloc ?_ (by first | omega | (simp; done) | (simp; omega)) _ | refine Below.trans ?_ (Below.mono (by assumption) (by first | omega | (simp; done) | (simp; omega))))
            · rw [if_neg h5]
              replace h5 : hasB b (⟨#[244, 250]⟩ : ByteArray) = false := by simpa using h5
              go_enter Try.func21, Try.ntmps21
              go_wp2_with (go_at_call 31; refine (cA _ (by show _ ≤ _; decide) _).mono ?_; rintro e _ ⟨rfl, hww⟩; obtain rfl := hww.symm)
              refine bodyPost_ret (by simp only [results, Try.results21]; go_simp; try rfl) rfl ⟨rfl, ?_⟩
              repeat (with_reducible first | exact Below.refl _ _ | assumption | refine below_drewN ?_ _ | refine Below.drew ?_ | refine Below.setCell ?_ (by first | omega | (simp; done) | (simp; omega)) _ | refine Below.alloc ?_ (by first | omega | (simp; done) | (simp; omega)) _ | refine Below.trans ?_ (Below.mono (by assumption) (by first | omega | (simp; done) | (simp; omega))))

set_option maxRecDepth 100000 in
set_option maxHeartbeats 16000000 in
theorem alone_any (b : Nat) (w : World) :
    Calls Try.prog 22 #[.int .u8 (b : Nat)] w fun e w' => e = .returned (rowA (aloneF b)) ∧ Below w.heap.size w w' := by
  have cA := fun s hs W => among_any b s hs W
  unfold aloneF
  by_cases e0 : b = 71
  · rw [if_pos e0]
    subst e0
    go_enter Try.func22, Try.ntmps22
    go_wp2_with (go_at_call 31; refine (cA _ (by show _ ≤ _; decide) _).mono ?_; rintro e _ ⟨rfl, hww⟩; obtain rfl := hww.symm)
    refine bodyPost_ret (by simp only [results, Try.results22]; go_simp; try rfl) rfl ⟨rfl, ?_⟩
    repeat (with_reducible first | exact Below.refl _ _ | assumption | refine below_drewN ?_ _ | refine Below.drew ?_ | refine Below.setCell ?_ (by first | omega | (simp; done) | (simp; omega)) _ | refine Below.alloc ?_ (by first | omega | (simp; done) | (simp; omega)) _ | refine Below.trans ?_ (Below.mono (by assumption) (by first | omega | (simp; done) | (simp; omega))))
  · rw [if_neg e0]
    have q71 : (((b : Nat) : Int) == 71) = false := beq_eq_false_iff_ne.2 (by omega)
    by_cases e1 : b = 80
    · rw [if_pos e1]
      subst e1
      go_enter Try.func22, Try.ntmps22
      go_wp2_with (go_at_call 31; refine (cA _ (by show _ ≤ _; decide) _).mono ?_; rintro e _ ⟨rfl, hww⟩; obtain rfl := hww.symm)
      refine bodyPost_ret (by simp only [results, Try.results22]; go_simp; try rfl) rfl ⟨rfl, ?_⟩
      repeat (with_reducible first | exact Below.refl _ _ | assumption | refine below_drewN ?_ _ | refine Below.drew ?_ | refine Below.setCell ?_ (by first | omega | (simp; done) | (simp; omega)) _ | refine Below.alloc ?_ (by first | omega | (simp; done) | (simp; omega)) _ | refine Below.trans ?_ (Below.mono (by assumption) (by first | omega | (simp; done) | (simp; omega))))
    · rw [if_neg e1]
      have q80 : (((b : Nat) : Int) == 80) = false := beq_eq_false_iff_ne.2 (by omega)
      by_cases e2 : b = 86
      · rw [if_pos e2]
        subst e2
        go_enter Try.func22, Try.ntmps22
        go_wp2_with (go_at_call 31; refine (cA _ (by show _ ≤ _; decide) _).mono ?_; rintro e _ ⟨rfl, hww⟩; obtain rfl := hww.symm)
        refine bodyPost_ret (by simp only [results, Try.results22]; go_simp; try rfl) rfl ⟨rfl, ?_⟩
        repeat (with_reducible first | exact Below.refl _ _ | assumption | refine below_drewN ?_ _ | refine Below.drew ?_ | refine Below.setCell ?_ (by first | omega | (simp; done) | (simp; omega)) _ | refine Below.alloc ?_ (by first | omega | (simp; done) | (simp; omega)) _ | refine Below.trans ?_ (Below.mono (by assumption) (by first | omega | (simp; done) | (simp; omega))))
      · rw [if_neg e2]
        have q86 : (((b : Nat) : Int) == 86) = false := beq_eq_false_iff_ne.2 (by omega)
        by_cases e3 : b = 87
        · rw [if_pos e3]
          subst e3
          go_enter Try.func22, Try.ntmps22
          go_wp2_with (go_at_call 31; refine (cA _ (by show _ ≤ _; decide) _).mono ?_; rintro e _ ⟨rfl, hww⟩; obtain rfl := hww.symm)
          refine bodyPost_ret (by simp only [results, Try.results22]; go_simp; try rfl) rfl ⟨rfl, ?_⟩
          repeat (with_reducible first | exact Below.refl _ _ | assumption | refine below_drewN ?_ _ | refine Below.drew ?_ | refine Below.setCell ?_ (by first | omega | (simp; done) | (simp; omega)) _ | refine Below.alloc ?_ (by first | omega | (simp; done) | (simp; omega)) _ | refine Below.trans ?_ (Below.mono (by assumption) (by first | omega | (simp; done) | (simp; omega))))
        · rw [if_neg e3]
          have q87 : (((b : Nat) : Int) == 87) = false := beq_eq_false_iff_ne.2 (by omega)
          by_cases e4 : b = 91
          · rw [if_pos e4]
            subst e4
            go_enter Try.func22, Try.ntmps22
            go_wp2_with (go_at_call 31; refine (cA _ (by show _ ≤ _; decide) _).mono ?_; rintro e _ ⟨rfl, hww⟩; obtain rfl := hww.symm)
            refine bodyPost_ret (by simp only [results, Try.results22]; go_simp; try rfl) rfl ⟨rfl, ?_⟩
            repeat (with_reducible first | exact Below.refl _ _ | assumption | refine below_drewN ?_ _ | refine Below.drew ?_ | refine Below.setCell ?_ (by first | omega | (simp; done) | (simp; omega)) _ | refine Below.alloc ?_ (by first | omega | (simp; done) | (simp; omega)) _ | refine Below.trans ?_ (Below.mono (by assumption) (by first | omega | (simp; done) | (simp; omega))))
          · rw [if_neg e4]
            have q91 : (((b : Nat) : Int) == 91) = false := beq_eq_false_iff_ne.2 (by omega)
            by_cases e5 : b = 92
            · rw [if_pos e5]
              subst e5
              go_enter Try.func22, Try.ntmps22
              go_wp2_with (go_at_call 31; refine (cA _ (by show _ ≤ _; decide) _).mono ?_; rintro e _ ⟨rfl, hww⟩; obtain rfl := hww.symm)
              refine bodyPost_ret (by simp only [results, Try.results22]; go_simp; try rfl) rfl ⟨rfl, ?_⟩
              repeat (with_reducible first | exact Below.refl _ _ | assumption | refine below_drewN ?_ _ | refine Below.drew ?_ | refine Below.setCell ?_ (by first | omega | (simp; done) | (simp; omega)) _ | refine Below.alloc ?_ (by first | omega | (simp; done) | (simp; omega)) _ | refine Below.trans ?_ (Below.mono (by assumption) (by first | omega | (simp; done) | (simp; omega))))
            · rw [if_neg e5]
              have q92 : (((b : Nat) : Int) == 92) = false := beq_eq_false_iff_ne.2 (by omega)
              by_cases e6 : b = 93
              · rw [if_pos e6]
                subst e6
                go_enter Try.func22, Try.ntmps22
                go_wp2_with (go_at_call 31; refine (cA _ (by show _ ≤ _; decide) _).mono ?_; rintro e _ ⟨rfl, hww⟩; obtain rfl := hww.symm)
                refine bodyPost_ret (by simp only [results, Try.results22]; go_simp; try rfl) rfl ⟨rfl, ?_⟩
                repeat (with_reducible first | exact Below.refl _ _ | assumption | refine below_drewN ?_ _ | refine Below.drew ?_ | refine Below.setCell ?_ (by first | omega | (simp; done) | (simp; omega)) _ | refine Below.alloc ?_ (by first | omega | (simp; done) | (simp; omega)) _ | refine Below.trans ?_ (Below.mono (by assumption) (by first | omega | (simp; done) | (simp; omega))))
              · rw [if_neg e6]
                have q93 : (((b : Nat) : Int) == 93) = false := beq_eq_false_iff_ne.2 (by omega)
                by_cases e7 : b = 241
                · rw [if_pos e7]
                  subst e7
                  go_enter Try.func22, Try.ntmps22
                  go_wp2_with (go_at_call 31; refine (cA _ (by show _ ≤ _; decide) _).mono ?_; rintro e _ ⟨rfl, hww⟩; obtain rfl := hww.symm)
                  refine bodyPost_ret (by simp only [results, Try.results22]; go_simp; try rfl) rfl ⟨rfl, ?_⟩
                  repeat (with_reducible first | exact Below.refl _ _ | assumption | refine below_drewN ?_ _ | refine Below.drew ?_ | refine Below.setCell ?_ (by first | omega | (simp; done) | (simp; omega)) _ | refine Below.alloc ?_ (by first | omega | (simp; done) | (simp; omega)) _ | refine Below.trans ?_ (Below.mono (by assumption) (by first | omega | (simp; done) | (simp; omega))))
                · rw [if_neg e7]
                  have q241 : (((b : Nat) : Int) == 241) = false := beq_eq_false_iff_ne.2 (by omega)
                  go_enter Try.func22, Try.ntmps22
                  go_wp2_with (go_at_call 31; refine (cA _ (by show _ ≤ _; decide) _).mono ?_; rintro e _ ⟨rfl, hww⟩; obtain rfl := hww.symm)
                  refine bodyPost_ret (by simp only [results, Try.results22]; go_simp; try rfl) rfl ⟨rfl, ?_⟩
                  repeat (with_reducible first | exact Below.refl _ _ | assumption | refine below_drewN ?_ _ | refine Below.drew ?_ | refine Below.setCell ?_ (by first | omega | (simp; done) | (simp; omega)) _ | refine Below.alloc ?_ (by first | omega | (simp; done) | (simp; omega)) _ | refine Below.trans ?_ (Below.mono (by assumption) (by first | omega | (simp; done) | (simp; omega))))

def ofF (b : Nat) : (Nat × Nat × Nat) × Bool :=
  if 96 ≤ b ∧ b ≤ 127 then ((0, 1, 3), true) else if 128 ≤ b ∧ b ≤ 143 then ((b % 16 + 1, b % 16 + 2, 3), true) else if 144 ≤ b ∧ b ≤ 159 then ((b % 16 + 2, b % 16 + 2, 3), true)
  else if 160 ≤ b ∧ b ≤ 164 then ((b % 16 + 2, 0, 375 * (b % 16 + 1)), true) else if (arithF b).2 = true then arithF b else if (outF b).2 = true then outF b else aloneF b
theorem of_info : ∀ b, b < 256 → ofF b = infoF b := by decide +kernel
theorem and_15 : ∀ b, b < 256 → bits .and .u8 ((b : Nat) : Int) 15 = ((b % 16 : Nat) : Int) := by decide +kernel
end Go.Proofs.Ytjdhkdmcglnihaa
