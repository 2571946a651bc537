/-
  Code behind code: plain facts on the places that may be jumped to; At at such a place. Conditions: none.
-/
import Derived.Test.YtjdhkdmcglnihaaCShown
namespace Go.Proofs.Ytjdhkdmcglnihaa
open Go.RowKit Go.Shelf
set_option linter.unusedSimpArgs false
set_option linter.unusedVariables false

theorem nxt_both (a b : ByteArray) (k : Nat) (h : k < a.size) : nxt (a ++ b) k = nxt a k := by
  unfold nxt
  rw [byteD_append, if_pos h]

theorem opsN_both (a b : ByteArray) : ∀ f k F, a.size ≤ f + k → (a ++ b).size ≤ F + k → ∃ r, opsN (a ++ b) F k = opsN a f k ++ r := by
  intro f
  induction f with
  | zero => exact fun k F _ _ => ⟨_, rfl⟩
  | succ f ih =>
    intro k F h h2
    by_cases hk : k < a.size
    · have hs : (a ++ b).size = a.size + b.size := ByteArray.size_append
      obtain ⟨G, rfl⟩ : ∃ G, F = G + 1 := ⟨F - 1, by omega⟩
      have hn := nxt_lt a k
      rw [opsN_more a f k hk, opsN_more (a ++ b) G k (by omega), nxt_both a b k hk]
      obtain ⟨r, hr⟩ := ih (nxt a k) G (by omega) (by omega)
      exact ⟨r, by rw [hr]; rfl⟩
    · rw [opsN_end a (f + 1) k (by omega)]
      exact ⟨_, rfl⟩

theorem opsN_in (s : ByteArray) : ∀ f k x, x ∈ opsN s f k → k ≤ x ∧ x < s.size := by
  intro f
  induction f with
  | zero => intro k x h; cases h
  | succ f ih =>
    intro k x h
    by_cases hk : k < s.size
    · rw [opsN_more s f k hk] at h
      rcases List.mem_cons.1 h with rfl | h
      · exact ⟨Nat.le_refl _, hk⟩
      · have h1 := ih _ _ h
        have h2 := nxt_lt s k
        omega
    · rw [opsN_end s _ k (by omega)] at h
      cases h

theorem opsN_sorted (s : ByteArray) : ∀ f k, (opsN s f k).Pairwise (· < ·) := by
  intro f
  induction f with
  | zero => intro k; exact .nil
  | succ f ih =>
    intro k
    by_cases hk : k < s.size
    · rw [opsN_more s f k hk]
      refine .cons (fun x hx => ?_) (ih _)
      have h1 := opsN_in s _ _ x hx
      have h2 := nxt_lt s k
      omega
    · rw [opsN_end s _ k (by omega)]
      exact .nil

theorem jumps_both (a b : ByteArray) : ∃ r, jumpsN (a ++ b) = jumpsN a ++ r := by
  have hs : (a ++ b).size = a.size + b.size := ByteArray.size_append
  obtain ⟨r, hr⟩ := opsN_both a b a.size 0 (a ++ b).size (by omega) (by omega)
  unfold jumpsN
  rw [hr]
  refine ⟨jmp (a ++ b) r, ?_⟩
  unfold jmp
  rw [List.filter_append]
  congr 1
  refine List.filter_congr fun x hx => ?_
  rw [byteD_append, if_pos (opsN_in a _ _ x hx).2]

theorem jumps_at (s : ByteArray) {k x : Nat} (h : (jumpsN s)[k]? = some x) : x < s.size ∧ byteD s x = 91 := by
  have hm := List.mem_of_getElem? h
  unfold jumpsN jmp at hm
  rw [List.mem_filter] at hm
  exact ⟨(opsN_in s _ _ x hm.1).2, by simpa using hm.2⟩

theorem jumps_sorted (s : ByteArray) {k x y : Nat} (h : (jumpsN s)[k]? = some x) (h2 : (jumpsN s)[k + 1]? = some y) : x < y := by
  have hp : (jumpsN s).Pairwise (· < ·) := (opsN_sorted s s.size 0).filter _
  obtain ⟨h1, rfl⟩ := List.getElem?_eq_some_iff.1 h
  obtain ⟨h3, rfl⟩ := List.getElem?_eq_some_iff.1 h2
  exact List.pairwise_iff_getElem.1 hp k (k + 1) h1 h3 (Nat.lt_succ_self _)

/-- code.At, at a place that may be jumped to. -/
theorem At_jump (s : ByteArray) (k : Nat) (h : k < s.size) (hb : byteD s k = 91) (hm : s.size ≤ 4194304) (w : World) :
    Calls Try.prog 9 #[.string s, .int .i64 k] w fun e w' => e = .returned (.tuple #[.int .u8 91, .string ⟨#[]⟩, .int .i64 ((k : Int) + 1)]) ∧ Below w.heap.size w w' := by
  have h1 := At_in s k h (by omega) (by unfold maxLen; omega) w
  rw [hb, show nD 91 = 0 from rfl, dataS_zero] at h1
  exact h1

theorem isL_take {W : World} {g cap : Nat} {L r : List Nat} (hg : g < W.heap.size) (hn : (L ++ r).length ≤ cap) (hm : cap ≤ maxLen) (hc : ∀ j x, (L ++ r)[j]? = some x → W.cell? ⟨g, j, none⟩ = some (.int .i64 (x : Nat))) :
    isL W (.slice (some ⟨g, 0, none⟩) L.length cap) L := by
  refine .inr ⟨g, cap, rfl, hg, by simp at hn; omega, hm, fun j x hx => hc j x ?_⟩
  rw [List.getElem?_append_left (List.getElem?_eq_some_iff.1 hx).1]
  exact hx
end Go.Proofs.Ytjdhkdmcglnihaa
