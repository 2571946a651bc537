/-
  Bytes as a thing: Decode. Conditions: the bytes are a thing's, less deep than 12, at most 65536.
-/
import Derived.Test.YtijidnhaijdfaaaGreatDoorPR17
namespace Go.Proofs.YtijidnhaijdfaaaGreatDoor
open Go.RowKit
attribute [local go_sem] leftBy leaves
set_option linter.unusedSimpArgs false
set_option linter.unusedVariables false

/-- The thing at a place. -/
theorem itsF.get {F : Nat → Prop} {W : World} {a : Option Addr} : ∀ {l : List It} {i k : Nat} {x : It}, itsF F W a i l → l[k]? = some x → ∃ (bl o : Nat) (p : Option Addr) (c : Nat), (a = some ⟨bl, o, none⟩ ∧ F bl) ∧
    W.cell? ⟨bl, o + (i + k) * 3, none⟩ = some (.bool (isL x)) ∧ W.cell? ⟨bl, o + (i + k) * 3 + 1, none⟩ = some (.string (bsS (txt x))) ∧ W.cell? ⟨bl, o + (i + k) * 3 + 2, none⟩ = some (.slice p (subs x).length c) ∧ itF F W x (.agg #[.bool (isL x), .string (bsS (txt x)), .slice p (subs x).length c])
  | y :: l, i, 0, x, h, hk => by
    obtain rfl : y = x := by simpa using hk
    obtain ⟨⟨bl, o, b, t, s, ha, ⟨c0, c1, c2⟩, hx⟩, _⟩ := h
    have hx' := hx
    obtain ⟨p, c, hv, _⟩ := hx'.form
    simp only [Value.agg.injEq] at hv
    have e := congrArg Array.toList hv
    simp only [List.cons.injEq, and_true] at e
    obtain ⟨rfl, rfl, rfl⟩ := e
    exact ⟨bl, o, p, c, ha, c0, c1, c2, hx⟩
  | y :: l, i, k + 1, x, h, hk => by
    have := itsF.get (i := i + 1) (k := k) h.2 (by simpa using hk)
    rw [show i + 1 + k = i + (k + 1) by omega] at this
    exact this
  | [], i, k, x, h, hk => by cases hk

set_option maxRecDepth 100000 in
set_option maxHeartbeats 8000000 in
theorem Decode_any (x : It) (hd : dep x < 12) (hlen : (enc x).length ≤ 65536) (W : World) : Calls Tryz.prog 25 #[.string (bsS (enc x))] W fun e w' => ∃ v, e = .returned (.tuple #[v, .int .i64 0]) ∧ itF (fun q => W.heap.size ≤ q) w' x v ∧ Below W.heap.size W w' := by
  have hz := bsS_size (enc x)
  have cA := all_any (dep x) [x] (by simp [deps]) (by rw [encs_one]; omega)
  unfold allP at cA
  rw [encs_one] at cA
  have cD := fun v W hv => deep_all 12 x hd (by omega) (by omega) v W hv
  have hh := World.alloc_heap_new W (.cells #[.bool false, .string ⟨#[]⟩, .slice none 0 0] 51)
  have b1 : Below W.heap.size W (W.alloc (.cells #[.bool false, .string ⟨#[]⟩, .slice none 0 0] 51)) := (Below.refl _ W).alloc (Nat.le_refl _) _
  have hleni : ((enc x).length : Int) ≤ 65536 := by omega
  go_enter Tryz.func25, Tryz.ntmps25
  go_wp2_with (first | (go_at_call 48; (with_reducible refine (cA _).mono ?_); rintro e w3 ⟨a, c, rfl, hc, hits, hb3⟩; rw [World.size_alloc] at hits hb3; obtain ⟨bl, o, p, c', ⟨rfl, hF⟩, c0, c1, c2, hv⟩ := itsF.get (k := 0) hits rfl; rw [Nat.zero_add, Nat.zero_mul, Nat.add_zero] at c0 c1 c2; have h3 := (hb3.block W.heap.size (by omega)).trans hh) | (go_at_call 31; refine (cD _ _ hv.v).mono ?_; rintro e w4 ⟨rfl, hb4⟩; have h4 := (hb4.block W.heap.size (lt_of_some h3)).trans h3; obtain ⟨i0, i1, i2⟩ := cell3 h4; have d0 := (hb4.cell (p := ⟨bl, o, none⟩) (lt_of_cell c0)).trans c0; have d1 := (hb4.cell (p := ⟨bl, o + 1, none⟩) (lt_of_cell c1)).trans c1; have d2 := (hb4.cell (p := ⟨bl, o + 2, none⟩) (lt_of_cell c2)).trans c2; have g0 := Lib.frozen_of_heap h4 0; have g1 := Lib.frozen_of_heap h4 1; have g2 := Lib.frozen_of_heap h4 2))
  have z3 := hb3.size
  have z4 := hb4.size
  rw [World.size_alloc] at z3
  have b4 : Below W.heap.size W w4 := (b1.trans (hb3.mono (by omega))).trans (hb4.mono (by omega))
  refine bodyPost_ret (by simp only [results, Tryz.results25]; go_simp; try rfl) rfl ⟨_, rfl, (hv.below hb4).to fun q hq hcq => ⟨by omega, ?_⟩, ((b4.setCell (Nat.le_refl _) _).setCell (Nat.le_refl _) _).setCell (Nat.le_refl _) _⟩
  rw [heap_set_ne (by omega), heap_set_ne (by omega), heap_set_ne (by omega)]
end Go.Proofs.YtijidnhaijdfaaaGreatDoor
