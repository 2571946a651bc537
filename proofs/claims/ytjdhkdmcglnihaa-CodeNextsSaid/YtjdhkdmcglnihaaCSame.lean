/-
  The contracts of the document's Same, at two lists that are the same, and of shown. Conditions: none.
-/
import Derived.Test.YtjdhkdmcglnihaaCRJ
namespace Go.Proofs.Ytjdhkdmcglnihaa
open Go.RowKit Go.Shelf
attribute [local go_sem] leftBy
set_option linter.unusedSimpArgs false
set_option linter.unusedVariables false


/-- v reads as the list L. -/
def isL (W : World) (v : Value) (L : List Nat) : Prop :=
  (v = .slice none 0 0 ∧ L = []) ∨ ∃ g cap, v = .slice (some ⟨g, 0, none⟩) L.length cap ∧ g < W.heap.size ∧ L.length ≤ cap ∧ cap ≤ maxLen ∧ ∀ j x, L[j]? = some x → W.cell? ⟨g, j, none⟩ = some (.int .i64 (x : Nat))

theorem isL_of {W : World} {base : Nat} {v : Value} {L : List Nat} (h : W.ownsRow base 3 1 v L.length (L.map natV)) : isL W v L := by
  rcases h.2 with ⟨rfl, h0⟩ | ⟨g, cap, cur, rfl, hb, hg, hn, hm, hs, ht⟩
  · exact .inl ⟨rfl, List.eq_nil_of_length_eq_zero h0⟩
  · refine .inr ⟨g, cap, rfl, (Array.getElem?_eq_some_iff.1 hg).1, hn, hm, fun j x hx => ?_⟩
    have hj : j < L.length := (List.getElem?_eq_some_iff.1 hx).1
    rw [h.cellAt j (by omega), List.getElem?_map, hx]
    rfl
theorem isL.below {W W' : World} {v : Value} {L : List Nat} {B : Nat} (h : isL W v L) (hb : Below B W W') (hB : W.heap.size ≤ B) : isL W' v L := by
  rcases h with h | ⟨g, cap, rfl, hg, hn, hm, hc⟩
  · exact .inl h
  · exact .inr ⟨g, cap, rfl, Nat.lt_of_lt_of_le hg hb.size, hn, hm, fun j x hx => (hb.cell (p := ⟨g, j, none⟩) (Nat.lt_of_lt_of_le hg hB)).trans (hc j x hx)⟩

set_option maxHeartbeats 4000000 in
theorem Same_none (a b : Option Addr) (c d : Nat) (w : World) :
    Calls Try.prog 11 #[.slice a 0 c, .slice b 0 d] w fun e w' => e = .returned (.bool true) ∧ Below w.heap.size w w' := by
  go_enter Try.func11, Try.ntmps11
  go_wp2
  go_loopw [5] (fun i wr => i = .int .i64 0 ∧ wr = w) (fun _ _ => 0)
  case atStart => exact ⟨rfl, rfl⟩
  case round =>
    obtain ⟨rfl, rfl⟩ := hrel
    go_wp2
    go_ret
    exact ⟨rfl, Below.refl _ _⟩

set_option maxHeartbeats 4000000 in
theorem Same_some (g g' c d : Nat) (L : List Nat) (w : World) (hn : L.length ≤ 4194304) (hc : L.length ≤ c) (hd : L.length ≤ d)
    (h1 : ∀ j x, L[j]? = some x → w.cell? ⟨g, j, none⟩ = some (.int .i64 (x : Nat))) (h2 : ∀ j x, L[j]? = some x → w.cell? ⟨g', j, none⟩ = some (.int .i64 (x : Nat))) :
    Calls Try.prog 11 #[.slice (some ⟨g, 0, none⟩) L.length c, .slice (some ⟨g', 0, none⟩) L.length d] w fun e w' => e = .returned (.bool true) ∧ Below w.heap.size w w' := by
  generalize hn' : L.length = n at *
  replace hn' := Lib.hid hn'
  go_enter Try.func11, Try.ntmps11
  go_wp2
  go_loopw [5] (fun i wr => ∃ k m : Nat, k ≤ n ∧ i = .int .i64 k ∧ wr = w.drewN m) (fun i _ => n - (intOf i).toNat)
  case atStart => exact ⟨0, 0, by omega, by go_num, rfl⟩
  case round =>
    obtain ⟨k, m, hk, rfl, rfl⟩ := hrel
    by_cases hkn : k < n
    · have hki : (k : Int) < (n : Int) := by omega
      have hkc : k < c := by omega
      have hkd : k < d := by omega
      obtain ⟨x, hx⟩ : ∃ x, L[k]? = some x := ⟨L[k]'(by have := hn'.out; omega), List.getElem?_eq_getElem _⟩
      have e1 := h1 k x hx
      have e2 := h2 k x hx
      clear hx
      have h1 := Lib.hid h1
      have h2 := Lib.hid h2
      go_wp2
      first | refine wp_flow (fun k => ([1, 1, 1, 1, 1, 1, 1, 1, 1] : List Nat).getD k 1) Dr _ (Dr.next _ _) (by kernel_rfl) (by kernel_rfl) ?_ | refine wp_flow (fun k => ([1, 1, 1, 1, 1, 1, 1, 1, 1] : List Nat).getD k 1) Dr _ (Dr.one _) (by kernel_rfl) (by kernel_rfl) ?_
      (refine flow_quiet rfl rfl (fun K hK => ?_); apply Exists.intro; apply And.intro; (focus (rintro w' ⟨nn, rfl⟩; go_simp; (try go_bits); exact ⟨rfl, Dr.of _ _⟩)); go_simp; (try go_bits); refine hK _ ?_; clear hK K)
      (refine flow_quiet rfl rfl (fun K hK => ?_); apply Exists.intro; apply And.intro; (focus (rintro w' ⟨nn, rfl⟩; go_simp; (try go_bits); exact ⟨rfl, Dr.of _ _⟩)); go_simp; (try go_bits); refine hK _ ?_; clear hK K)
      (refine flow_quiet rfl rfl (fun K hK => ?_); apply Exists.intro; apply And.intro; (focus (rintro w' ⟨nn, rfl⟩; go_simp; (try go_bits); exact ⟨rfl, Dr.of _ _⟩)); go_simp; (try go_bits); refine hK _ ?_; clear hK K)
      (refine flow_quiet rfl rfl (fun K hK => ?_); apply Exists.intro; apply And.intro; (focus (rintro w' ⟨nn, rfl⟩; go_simp; (try go_bits); exact ⟨rfl, Dr.of _ _⟩)); go_simp; (try go_bits); refine hK _ ?_; clear hK K)
      (refine flow_quiet rfl rfl (fun K hK => ?_); apply Exists.intro; apply And.intro; (focus (rintro w' ⟨nn, rfl⟩; go_simp; (try go_bits); exact ⟨rfl, Dr.of _ _⟩)); go_simp; (try go_bits); refine hK _ ?_; clear hK K)
      (refine flow_quiet rfl rfl (fun K hK => ?_); apply Exists.intro; apply And.intro; (focus (rintro w' ⟨nn, rfl⟩; go_simp; (try go_bits); exact ⟨rfl, Dr.of _ _⟩)); go_simp; (try go_bits); refine hK _ ?_; clear hK K)
      (refine flow_quiet rfl rfl (fun K hK => ?_); apply Exists.intro; apply And.intro; (focus (rintro w' ⟨nn, rfl⟩; go_simp; (try go_bits); exact ⟨rfl, Dr.of _ _⟩)); go_simp; (try go_bits); refine hK _ ?_; clear hK K)
      (refine flow_quiet rfl rfl (fun K hK => ?_); apply Exists.intro; apply And.intro; (focus (rintro w' ⟨nn, rfl⟩; go_simp; (try go_bits); exact ⟨rfl, Dr.of _ _⟩)); go_simp; (try go_bits); refine hK _ ?_; clear hK K)
      (refine flow_quiet rfl rfl (fun K hK => ?_); apply Exists.intro; apply And.intro; (focus (rintro w' ⟨nn, rfl⟩; go_simp; (try go_bits); exact ⟨rfl, Dr.of _ _⟩)); go_simp; (try go_bits); refine hK _ ?_; clear hK K)
      refine flow_nil ?_
      rintro w' ⟨nq, rfl⟩
      go_wp2
      go_roundw
      case rel => exact ⟨k + 1, _, by omega, by go_num, rfl⟩
      case measure => simp [intOf]; omega
    · have hki : ¬ (k : Int) < (n : Int) := by omega
      obtain rfl : k = n := by omega
      go_wp2
      go_ret
      refine ⟨rfl, ?_⟩
      repeat (with_reducible first | exact Below.refl _ _ | assumption | refine below_drewN ?_ _ | refine Below.drew ?_ | refine Below.setCell ?_ (by first | omega | (simp; done) | (simp; omega)) _ | refine Below.alloc ?_ (by first | omega | (simp; done) | (simp; omega)) _ | refine Below.trans ?_ (Below.mono (by assumption) (by first | omega | (simp; done) | (simp; omega))))

/-- Same, at two lists that are the same. -/
theorem Same_any {v u : Value} {L : List Nat} {w : World} (hn : L.length ≤ 4194304) (h1 : isL w v L) (h2 : isL w u L) :
    Calls Try.prog 11 #[v, u] w fun e w' => e = .returned (.bool true) ∧ Below w.heap.size w w' := by
  rcases h1 with ⟨rfl, rfl⟩ | ⟨g, c, rfl, hg, hc, _, hl⟩
  · rcases h2 with ⟨rfl, _⟩ | ⟨g', d, rfl, _, _, _, _⟩
    · exact Same_none _ _ _ _ w
    · exact Same_none _ _ _ _ w
  · rcases h2 with ⟨rfl, rfl⟩ | ⟨g', d, rfl, _, hd, _, hl2⟩
    · exact Same_none _ _ _ _ w
    · exact Same_some g g' c d L w hn hc hd hl hl2
end Go.Proofs.Ytjdhkdmcglnihaa
