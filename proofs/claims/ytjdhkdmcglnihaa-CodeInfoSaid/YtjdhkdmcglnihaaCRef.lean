/-
  The contract of the document's At. Conditions: none.
-/
import Derived.Test.YtjdhkdmcglnihaaCAt
namespace Go.Proofs.Ytjdhkdmcglnihaa
open Go.RowKit
attribute [local go_sem] leftBy
set_option linter.unusedSimpArgs false
set_option linter.unusedVariables false


set_option maxHeartbeats 4000000 in
theorem RAt_neg (s : ByteArray) (k : Int) (h : k < 0) (w : World) :
    Calls Try.prog 10 #[.string s, .int .i64 k] w fun e w' => e = .returned (.tuple #[.int .u8 0, .string ⟨#[]⟩, .int .i64 0]) ∧ Below w.heap.size w w' := by
  go_enter Try.func10, Try.ntmps10
  go_wp2
  refine bodyPost_ret (by simp only [results, Try.results10]; go_simp; try rfl) rfl ⟨rfl, ?_⟩
  repeat (with_reducible first | exact Below.refl _ _ | assumption | refine below_drewN ?_ _ | refine Below.drew ?_ | refine Below.setCell ?_ (by first | omega | (simp; done) | (simp; omega)) _ | refine Below.alloc ?_ (by first | omega | (simp; done) | (simp; omega)) _ | refine Below.trans ?_ (Below.mono (by assumption) (by first | omega | (simp; done) | (simp; omega))))

set_option maxHeartbeats 4000000 in
theorem RAt_far (s : ByteArray) (k : Nat) (h : s.size ≤ k) (hk : k ≤ 4611686018427387904) (w : World) :
    Calls Try.prog 10 #[.string s, .int .i64 k] w fun e w' => e = .returned (.tuple #[.int .u8 0, .string ⟨#[]⟩, .int .i64 ((k : Int) + 1)]) ∧ Below w.heap.size w w' := by
  have hi : (s.size : Int) ≤ (k : Int) := by omega
  go_enter Try.func10, Try.ntmps10
  go_wp2
  refine bodyPost_ret (by simp only [results, Try.results10]; go_simp; try rfl) rfl ⟨rfl, ?_⟩
  repeat (with_reducible first | exact Below.refl _ _ | assumption | refine below_drewN ?_ _ | refine Below.drew ?_ | refine Below.setCell ?_ (by first | omega | (simp; done) | (simp; omega)) _ | refine Below.alloc ?_ (by first | omega | (simp; done) | (simp; omega)) _ | refine Below.trans ?_ (Below.mono (by assumption) (by first | omega | (simp; done) | (simp; omega))))

set_option maxHeartbeats 4000000 in
theorem RAt_one (s : ByteArray) (k : Nat) (h : k < s.size) (hk : k ≤ 4611686018427387904) (hb : ¬ (96 ≤ byteD s k ∧ byteD s k ≤ 127)) (w : World) :
    Calls Try.prog 10 #[.string s, .int .i64 k] w fun e w' => e = .returned (.tuple #[.int .u8 (byteD s k : Nat), .string ⟨#[]⟩, .int .i64 ((k : Int) + 1)]) ∧ Below w.heap.size w w' := by
  have hix := fun W => index_d s k h W
  generalize byteD s k = b at *
  have hi : (k : Int) < (s.size : Int) := by omega
  by_cases h1 : b < 96
  · have h1i : (b : Int) < 96 := by omega
    go_enter Try.func10, Try.ntmps10
    go_wp2
    refine bodyPost_ret (by simp only [results, Try.results10]; go_simp; try rfl) rfl ⟨rfl, ?_⟩
    repeat (with_reducible first | exact Below.refl _ _ | assumption | refine below_drewN ?_ _ | refine Below.drew ?_ | refine Below.setCell ?_ (by first | omega | (simp; done) | (simp; omega)) _ | refine Below.alloc ?_ (by first | omega | (simp; done) | (simp; omega)) _ | refine Below.trans ?_ (Below.mono (by assumption) (by first | omega | (simp; done) | (simp; omega))))
  · have h1i : ¬ (b : Int) < 96 := by omega
    have h2i : (127 : Int) < (b : Int) := by omega
    go_enter Try.func10, Try.ntmps10
    go_wp2
    refine bodyPost_ret (by simp only [results, Try.results10]; go_simp; try rfl) rfl ⟨rfl, ?_⟩
    repeat (with_reducible first | exact Below.refl _ _ | assumption | refine below_drewN ?_ _ | refine Below.drew ?_ | refine Below.setCell ?_ (by first | omega | (simp; done) | (simp; omega)) _ | refine Below.alloc ?_ (by first | omega | (simp; done) | (simp; omega)) _ | refine Below.trans ?_ (Below.mono (by assumption) (by first | omega | (simp; done) | (simp; omega))))

def dataF (s : ByteArray) (k : Nat) : Nat → Nat := fun j => if k + 1 + j < s.size then byteD s (k + 1 + j) else 0
theorem dataS_eq (s : ByteArray) (k n : Nat) : dataS s k n = strN n (dataF s k) := rfl

set_option maxHeartbeats 4000000 in
theorem RAt_push (s : ByteArray) (k : Nat) (h : k < s.size) (hk : k ≤ 4611686018427387904) (hm : s.size ≤ maxLen) (hb : 96 ≤ byteD s k ∧ byteD s k ≤ 127) (w : World) :
    Calls Try.prog 10 #[.string s, .int .i64 k] w fun e w' => e = .returned (.tuple #[.int .u8 (byteD s k : Nat), .string (dataS s k (byteD s k - 95)), .int .i64 ((k + 1 + (byteD s k - 95) : Nat) : Int)]) ∧ Below w.heap.size w w' := by
  have hix := fun W => index_d s k h W
  generalize byteD s k = b at *
  obtain ⟨hb1, hb2⟩ := hb
  have hi : (k : Int) < (s.size : Int) := by omega
  have h1i : ¬ (b : Int) < 96 := by omega
  have h2i : ¬ (127 : Int) < (b : Int) := by omega
  obtain ⟨n, rfl⟩ : ∃ n, b = n + 95 := ⟨b - 95, by omega⟩
  rw [show n + 95 - 95 = n by omega]
  have hmax : maxLen = 9223372036854775807 := rfl
  have en : ((n + 95 : Nat) : Int) - 95 = (n : Int) := by omega
  have ek : ((k + 1 + n : Nat) : Int) = (k : Int) + 1 + (n : Int) := by omega
  rw [ek, dataS_eq]
  clear ek
  go_enter Try.func10, Try.ntmps10
  go_wp2
  go_loopw [9, 10] (fun v i wr => ∃ j : Nat, j ≤ n ∧ i = .int .i64 ((j : Int) + 1) ∧ ownB wr w.heap.size v j (dataF s k) ∧ Below w.heap.size w wr)
    (fun _ i _ => n + 1 - (intOf i).toNat)
  case atStart => exact ⟨0, by omega, rfl, ownB_nil _ _ _, by first | exact Below.refl _ _ | assumption⟩
  case round =>
    obtain ⟨j, hj, rfl, hown, hbel⟩ := hrel
    have hbs := hbel.size
    by_cases hjn : j < n
    · have hjni : (j : Int) + 1 ≤ (n : Int) := by omega
      by_cases hc : k + 1 + j < s.size
      · have hci : (k : Int) + ((j : Int) + 1) < (s.size : Int) := by omega
        have hf : dataF s k j = byteD s (k + 1 + j) := if_pos hc
        have hix2 := fun W => index_d s (k + 1 + j) hc W
        have ek : ((k + 1 + j : Nat) : Int) = (k : Int) + ((j : Int) + 1) := by omega
        rw [ek, ← hf] at hix2
        replace hf := Lib.hid hf
        clear ek
        go_wp2_with (at_builtin; refine wpList_append_byte rfl (.tmp 51) (.tmp 53) rfl rfl (hown.alloc _) wr.heap.size (dataF s k j) rfl (by simp) (by omega) (by first | omega | (simp; omega)) ?_; intro v' w2 hown' hgrow)
        have hown2 := hown'.to (f' := dataF s k) fun i _ => by
          by_cases e : i = j
          · rw [if_pos e, e]
          · rw [if_neg e]
        have hbel2 := grown_below (hown.alloc _) (hbel.alloc hbel.size _) (Nat.le_refl _) hgrow
        clear hown' hgrow
        go_wp2
        go_roundw
        case rel => exact ⟨j + 1, by omega, by go_num, hown2, hbel2⟩
        case measure => simp [intOf]; omega
      · have hci : ¬ (k : Int) + ((j : Int) + 1) < (s.size : Int) := by omega
        have hf : dataF s k j = 0 := if_neg hc
        go_wp2_with (at_builtin; refine wpList_append_byte rfl (.tmp 51) (.tmp 53) rfl rfl (hown.alloc _) wr.heap.size 0 rfl (by simp) (by omega) (by first | omega | (simp; omega)) ?_; intro v' w2 hown' hgrow)
        have hown2 := hown'.to (f' := dataF s k) fun i _ => by
          by_cases e : i = j
          · rw [if_pos e, e, hf]
          · rw [if_neg e]
        have hbel2 := grown_below (hown.alloc _) (hbel.alloc hbel.size _) (Nat.le_refl _) hgrow
        clear hown' hgrow
        go_wp2
        go_roundw
        case rel => exact ⟨j + 1, by omega, by go_num, hown2, hbel2⟩
        case measure => simp [intOf]; omega
    · have hjni : ¬ (j : Int) + 1 ≤ (n : Int) := by omega
      obtain rfl : j = n := by omega
      obtain ⟨g2, cap2, rfl, _, _, _, _, hro, _, _⟩ := hown.parts (by omega)
      have hcv := fun W (e : W.heap = wr.heap) => string_ofB (W := W) (n := j) (g := g2) (cap := cap2) (f := dataF s k) fun i hi => by
        have := hro.cellAt hi
        unfold World.cell? at this ⊢
        rw [e]
        exact this
      clear hown hro
      have hcv := fun n => hcv (wr.drewN n) rfl
      go_wp2
      first | refine wp_flow (fun k => ([1, 1, 1, 1, 1, 1, 1, 1, 1, 1] : List Nat).getD k 1) Dr _ (Dr.next _ _) (by kernel_rfl) (by kernel_rfl) ?_ | refine wp_flow (fun k => ([1, 1, 1, 1, 1, 1, 1, 1, 1, 1] : List Nat).getD k 1) Dr _ (Dr.one _) (by kernel_rfl) (by kernel_rfl) ?_
      (refine flow_quiet rfl rfl (fun K hK => ?_); apply Exists.intro; apply And.intro; (focus (rintro w' ⟨nn, rfl⟩; go_simp; (try go_bits); exact ⟨rfl, Dr.of _ _⟩)); go_simp; (try go_bits); refine hK _ ?_; clear hK K)
      (refine flow_quiet rfl rfl (fun K hK => ?_); apply Exists.intro; apply And.intro; (focus (rintro w' ⟨nn, rfl⟩; go_simp; (try go_bits); exact ⟨rfl, Dr.of _ _⟩)); go_simp; (try go_bits); refine hK _ ?_; clear hK K)
      (refine flow_quiet rfl rfl (fun K hK => ?_); apply Exists.intro; apply And.intro; (focus (rintro w' ⟨nn, rfl⟩; go_simp; (try go_bits); exact ⟨rfl, Dr.of _ _⟩)); go_simp; (try go_bits); refine hK _ ?_; clear hK K)
      (refine flow_quiet rfl rfl (fun K hK => ?_); apply Exists.intro; apply And.intro; (focus (rintro w' ⟨nn, rfl⟩; go_simp; (try go_bits); exact ⟨rfl, Dr.of _ _⟩)); go_simp; (try go_bits); refine hK _ ?_; clear hK K)
      (refine flow_quiet rfl rfl (fun K hK => ?_); apply Exists.intro; apply And.intro; (focus (rintro w' ⟨nn, rfl⟩; go_simp; (try go_bits); exact ⟨rfl, Dr.of _ _⟩)); go_simp; (try go_bits); refine hK _ ?_; clear hK K)
      (refine flow_quiet rfl rfl (fun K hK => ?_); apply Exists.intro; apply And.intro; (focus (rintro w' ⟨nn, rfl⟩; go_simp; (try go_bits); exact ⟨rfl, Dr.of _ _⟩)); go_simp; (try go_bits); refine hK _ ?_; clear hK K)
      (refine flow_quiet rfl rfl (fun K hK => ?_); apply Exists.intro; apply And.intro; (focus (rintro w' ⟨nn, rfl⟩; go_simp; (try go_bits); exact ⟨rfl, Dr.of _ _⟩)); go_simp; (try go_bits); refine hK _ ?_; clear hK K)
      (refine flow_quiet rfl rfl (fun K hK => ?_); apply Exists.intro; apply And.intro; (focus (rintro w' ⟨nn, rfl⟩; go_simp; (try go_bits); exact ⟨rfl, Dr.of _ _⟩)); go_simp; (try go_bits); refine hK _ ?_; clear hK K)
      (refine flow_quiet rfl rfl (fun K hK => ?_); apply Exists.intro; apply And.intro; (focus (rintro w' ⟨nn, rfl⟩; go_simp; (try go_bits); exact ⟨rfl, Dr.of _ _⟩)); go_simp; (try go_bits); refine hK _ ?_; clear hK K)
      (refine flow_quiet rfl rfl (fun K hK => ?_); apply Exists.intro; apply And.intro; (focus (rintro w' ⟨nn, rfl⟩; go_simp; (try go_bits); exact ⟨rfl, Dr.of _ _⟩)); go_simp; (try go_bits); refine hK _ ?_; clear hK K)
      refine flow_nil ?_
      rintro w' ⟨nq, rfl⟩
      go_wp2
      refine bodyPost_ret (by simp only [results, Try.results10]; go_simp; try rfl) rfl ⟨rfl, ?_⟩
      repeat (with_reducible first | exact Below.refl _ _ | assumption | refine below_drewN ?_ _ | refine Below.drew ?_ | refine Below.setCell ?_ (by first | omega | (simp; done) | (simp; omega)) _ | refine Below.alloc ?_ (by first | omega | (simp; done) | (simp; omega)) _ | refine Below.trans ?_ (Below.mono (by assumption) (by first | omega | (simp; done) | (simp; omega))))

/-- The document's At, at a place of the code. -/
theorem RAt_in (s : ByteArray) (k : Nat) (h : k < s.size) (hk : k ≤ 4611686018427387904) (hm : s.size ≤ maxLen) (w : World) :
    Calls Try.prog 10 #[.string s, .int .i64 k] w fun e w' => e = .returned (.tuple #[.int .u8 (byteD s k : Nat), .string (dataS s k (nD (byteD s k))), .int .i64 ((k + 1 + nD (byteD s k) : Nat) : Int)]) ∧ Below w.heap.size w w' := by
  by_cases hb : 96 ≤ byteD s k ∧ byteD s k ≤ 127
  · rw [show nD (byteD s k) = byteD s k - 95 from if_pos hb]
    exact RAt_push s k h hk hm hb w
  · rw [show nD (byteD s k) = 0 from if_neg hb, dataS_zero]
    exact RAt_one s k h hk hb w
end Go.Proofs.Ytjdhkdmcglnihaa
