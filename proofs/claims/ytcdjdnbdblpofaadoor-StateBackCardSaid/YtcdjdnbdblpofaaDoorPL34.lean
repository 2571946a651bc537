/-
  The contract of pharoslaw19.shown: it returns true. Conditions: none.
-/
import Derived.Test.YtcdjdnbdblpofaaDoorPL6
import Derived.Test.YtcdjdnbdblpofaaDoorPL19
import Derived.Test.YtcdjdnbdblpofaaDoorSEq
import Derived.Maps.Views
namespace Go.Proofs.YtcdjdnbdblpofaaDoor
open Go.RowKit Go.Maps
attribute [local go_sem] eqW guardW
set_option linter.unusedSimpArgs false
set_option linter.unusedVariables false

theorem keyA : ∃ kl, keyOf Tryd.prog 83 (.agg #[.string ⟨#[97]⟩, .int .u64 1, .int .u64 0, .int .u64 0, .int .u64 0]) = some kl := Option.isSome_iff_exists.1 (by kernel_rfl)

theorem knw_a (W : World) {b : Nat} {a : ByteArray} (ha : a.size ≤ maxLen) (h : W.ownsMap Tryd.prog 9 heldR b 1 (D0 a)) :
    ∀ W' : World, W'.heap[b]? = W.heap[b]? → (Instr.lookup 66 (.map (some b)) (.string a) true).run Tryd.prog W' = .ok (.tuple #[Kn.v ⟨a, false, 0, 0, 0, 0, 0, ⟨#[]⟩, ⟨#[]⟩, false, ⟨#[]⟩, none, 0, 0⟩, .bool true]) W' := by
  intro W' e
  have hk := lawStr.key (keyStr a ha)
  have hl := look2 lawStr Tryd.underlying66 h zeroKn (keyStr a ha) (v := kn0 a) (atKey_put_same isMap_empty hk _ _) W' e
  rw [show Maps.has (D0 a) (.string a.data.toList) = true from has_put_same isMap_empty hk _] at hl
  exact hl

theorem knw_b (W : World) {b : Nat} {a c : ByteArray} (ha : a.size ≤ maxLen) (hc : c.size ≤ maxLen) (hn : Lit.string c.data.toList ≠ .string a.data.toList) (h : W.ownsMap Tryd.prog 9 heldR b 1 (D0 a)) :
    ∀ W' : World, W'.heap[b]? = W.heap[b]? → (Instr.lookup 66 (.map (some b)) (.string c) true).run Tryd.prog W' = .ok (.tuple #[Kn.zero.v, .bool false]) W' := by
  intro W' e
  have hk := lawStr.key (keyStr a ha)
  have hk' := lawStr.key (keyStr c hc)
  have hl := look2 lawStr Tryd.underlying66 h zeroKn (keyStr c hc) (v := Kn.zero.v) (by rw [D0, atKey_put_other hn]; rfl) W' e
  rw [show Maps.has (D0 a) (.string c.data.toList) = false from has_put_other hn _] at hl
  exact hl

/-- Load, at the one account, where nothing was saved. -/
theorem Load_a {W : World} {b n : Nat} {lg un : Value} {a : ByteArray} {D : DataW Value} (hst : stA W b lg un) (ha : a.size ≤ maxLen) (hD : W.ownsMap Tryd.prog 9 heldR b 1 (D0 a)) (hS : W.ownsMap Tryd.prog 83 heldR (b + 2) n D) (k0 k1 k2 k3 : Int) {kl : Lit}
    (hkey : keyOf Tryd.prog 83 (.agg #[.string a, .int .u64 k0, .int .u64 k1, .int .u64 k2, .int .u64 k3]) = some kl)
    (hv : D.atKey kl (.held word0) = .held word0) (hh : Maps.has D kl = false) :
    Calls Tryd.prog 14 #[.pointer (some ⟨b + 6, 0, none⟩), .string a, .agg #[.int .u64 k0, .int .u64 k1, .int .u64 k2, .int .u64 k3]] W fun e w' => e = .returned (.tuple #[.agg #[.int .u64 0, .int .u64 0, .int .u64 0, .int .u64 0], .int .i64 0]) ∧ Below W.heap.size W w' := by
  have hlt := hst.lt
  refine Load_miss hst a k0 k1 k2 k3 0 0 0 0 0 (fun W' e => ?_) (fun W' hb => ?_)
  · have hl := look2 lawSpot Tryd.underlying68 hS (z := word0) (fun w => by kernel_rfl) hkey hv W' e
    rw [hh] at hl
    exact hl
  · exact Origin_empty (lg := lg) (un := un) ((hb.block _ hlt).trans hst) a ⟨a, false, 0, 0, 0, 0, 0, ⟨#[]⟩, ⟨#[]⟩, false, ⟨#[]⟩, none, 0, 0⟩ k0 k1 k2 k3 rfl fun W2 e => knw_a W ha hD W2 (e.trans (hb.block _ hD.lt))

set_option maxRecDepth 100000 in
set_option maxHeartbeats 8000000 in
theorem shown_any (W : World) : Calls Tryd.prog 9 #[] W fun e w' => e = .returned (.bool true) ∧ Below W.heap.size W w' := by
  have cN := New_one (W := W.alloc (.cells #[.string ⟨#[97]⟩, .bool false, .int .u64 0, .int .u64 0, .int .u64 0, .int .u64 0, .int .u64 0, .string ⟨#[]⟩, .string ⟨#[]⟩, .bool false, .string ⟨#[]⟩, .slice none 0 0] 65)) (g := W.heap.size) ⟨#[97]⟩ (by decide) (heap_new rfl)
  have hbW : Below W.heap.size W (W.alloc (.cells #[.string ⟨#[97]⟩, .bool false, .int .u64 0, .int .u64 0, .int .u64 0, .int .u64 0, .int .u64 0, .string ⟨#[]⟩, .string ⟨#[]⟩, .bool false, .string ⟨#[]⟩, .slice none 0 0] 65)) := (Below.refl _ _).alloc (Nat.le_refl _) _
  have hb : (W.alloc (.cells #[.string ⟨#[97]⟩, .bool false, .int .u64 0, .int .u64 0, .int .u64 0, .int .u64 0, .int .u64 0, .string ⟨#[]⟩, .string ⟨#[]⟩, .bool false, .string ⟨#[]⟩, .slice none 0 0] 65)).heap.size = W.heap.size + 1 := by simp
  rw [hb] at cN
  clear hb
  obtain ⟨kl, hkl⟩ := keyA
  have hK := lawSpot.key hkl
  have a1 : (⟨#[97]⟩ : ByteArray).size ≤ maxLen := by decide
  go_enter Tryd.func9, Tryd.ntmps9
  go_wp2_with (go_at_call 10; refine cN.mono ?_; rintro e w1 ⟨rfl, hb1, hst, hD0, hD1, hS⟩)
  have f1 : Below W.heap.size W w1 := hbW.trans (hb1.mono (by omega))
  have b1 : Below w1.heap.size w1 (w1.alloc (.cells #[.int .u64 1, .int .u64 0, .int .u64 0, .int .u64 0] 25)) := (Below.refl _ _).alloc (Nat.le_refl _) _
  have l1 := hst.lt
  have z1 : (w1.alloc (.cells #[.int .u64 1, .int .u64 0, .int .u64 0, .int .u64 0] 25)).heap.size = w1.heap.size + 1 := by simp
  have k1 : (w1.alloc (.cells #[.int .u64 1, .int .u64 0, .int .u64 0, .int .u64 0] 25)).heap[w1.heap.size]? = some (.cells #[.int .u64 1, .int .u64 0, .int .u64 0, .int .u64 0] 25 (0, 0)) := heap_new rfl
  have f2 := f1.trans (b1.mono f1.size)
  have hst1 : stA (w1.alloc (.cells #[.int .u64 1, .int .u64 0, .int .u64 0, .int .u64 0] 25)) (W.heap.size + 1) (.slice none 0 0) (.slice none 0 0) := (b1.block _ l1).trans hst
  have hE1 := owns_of hD0 (b1.block _ hD0.lt)
  have hS1 := owns_of hS (b1.block _ hS.lt)
  clear hb1 hst hD0 hD1 hS cN hbW b1
  generalize w1.alloc (.cells #[.int .u64 1, .int .u64 0, .int .u64 0, .int .u64 0] 25) = wk at *
  have cS := Save_first hst1 hS1 (by decide) ⟨#[97]⟩ 1 0 0 0 7 0 0 0 0 0 0 0 0 0 0 0 hkl (by rfl) fun W' hb => Load_a (lg := .slice none 0 0) (un := .slice none 0 0) ((hb.block _ hst1.lt).trans hst1) a1 (owns_of hE1 (hb.block _ hE1.lt)) (owns_of hS1 (hb.block _ hS1.lt)) 1 0 0 0 hkl rfl rfl
  go_wp2_with (go_at_call 21; refine cS.mono ?_; rintro e w2 ⟨rfl, hF2, q, g, cap, hst2, hcap, hg1, hg2, hcg, hB⟩; have k2 := (hF2.block w1.heap.size (by omega) (by omega)).trans k1; obtain ⟨x0, x1, x2, x3⟩ := cells4w k2)
  have s2 := hF2.size
  have f3 : Below W.heap.size W w2 := f2.trans (hF2.toBelow (by omega) (fun k hk => by omega))
  have hE2 := owns_of hE1 (hF2.block _ (by omega) (by omega))
  have hD2 := owns_of hB.own rfl
  clear hst1 hE1 hS1 cS x0 x1 x2 x3 hF2
  have cL := Load_hit hst2 ⟨#[97]⟩ 1 0 0 0 7 0 0 0 fun W' e => by
    have hl := look2 lawSpot Tryd.underlying68 hB.own (z := word0) (fun w => by kernel_rfl) hkl (atKey_put_same isMap_empty hK _ _) W' e
    rw [show Maps.has ((DataW.map []).put kl _) kl = true from has_put_same isMap_empty hK _] at hl
    exact hl
  go_wp2_with (go_at_call 14; refine cL.mono ?_; rintro e w3 ⟨rfl, hb3⟩)
  have b3 : Below w2.heap.size w2 (w3.alloc (.cells #[.int .u64 7, .int .u64 0, .int .u64 0, .int .u64 0] 25)) := hb3.alloc hb3.size _
  have k3 : (w3.alloc (.cells #[.int .u64 7, .int .u64 0, .int .u64 0, .int .u64 0] 25)).heap[w3.heap.size]? = some (.cells #[.int .u64 7, .int .u64 0, .int .u64 0, .int .u64 0] 25 (0, 0)) := heap_new rfl
  have s3 := hb3.size
  have z3 : (w3.alloc (.cells #[.int .u64 7, .int .u64 0, .int .u64 0, .int .u64 0] 25)).heap.size = w3.heap.size + 1 := by simp
  have hst3 := (show stA (w3.alloc (.cells #[.int .u64 7, .int .u64 0, .int .u64 0, .int .u64 0] 25)) (W.heap.size + 1) (.slice none 0 0) (.slice (some ⟨g, 0, none⟩) 1 cap) from (b3.block _ hst2.lt).trans hst2)
  have hE3 := owns_of hE2 (b3.block _ hE2.lt)
  have hB3 := hB.below b3
  have q3 := (b3.block _ (by omega)).trans k2
  have c3 := (b3.cell (p := ⟨g, 0, none⟩) hg2).trans hcg
  have f4 := f3.trans (b3.mono f3.size)
  clear b3 hb3 k2 k1 cL hB hD2 hE2 hst2 hcg
  generalize w3.alloc (.cells #[.int .u64 7, .int .u64 0, .int .u64 0, .int .u64 0] 25) = wl at *
  rw [show Maps.has (DataW.map [] : DataW Value) kl = false from rfl] at hB3
  have cB := Back_one hst3 hcap c3 (by omega) ⟨#[97]⟩ 1 0 0 0 hkl hB3 (by omega)
  go_wp2_with (go_at_call 31; refine cB.mono ?_; rintro e w4 ⟨rfl, hF4, hst4, hS4⟩; have q4 := (hF4.block w1.heap.size (by omega) (by omega)).trans q3; have k4 := (hF4.block w3.heap.size (by omega) (by omega)).trans k3; obtain ⟨x0, x1, x2, x3⟩ := cells4w q4)
  have s4 := hF4.size
  have f5 : Below W.heap.size W w4 := f4.trans (hF4.toBelow (by omega) (fun k hk => by omega))
  have hE4 := owns_of hE3 (hF4.block _ (by omega) (by omega))
  clear hst3 hE3 cB x0 x1 x2 x3 hF4 hB3 k3 q3 c3
  have cL := Load_a hst4 a1 hE4 hS4 1 0 0 0 hkl (atKey_del_same _) has_del_same
  go_wp2_with (go_at_call 14; refine cL.mono ?_; rintro e w5 ⟨rfl, hb5⟩)
  have b5 : Below w4.heap.size w4 (w5.alloc (.cells #[.int .u64 0, .int .u64 0, .int .u64 0, .int .u64 0] 25)) := hb5.alloc hb5.size _
  have k5 : (w5.alloc (.cells #[.int .u64 0, .int .u64 0, .int .u64 0, .int .u64 0] 25)).heap[w5.heap.size]? = some (.cells #[.int .u64 0, .int .u64 0, .int .u64 0, .int .u64 0] 25 (0, 0)) := heap_new rfl
  have s5 := hb5.size
  have z5 : (w5.alloc (.cells #[.int .u64 0, .int .u64 0, .int .u64 0, .int .u64 0] 25)).heap.size = w5.heap.size + 1 := by simp
  have hst5 := (show stA (w5.alloc (.cells #[.int .u64 0, .int .u64 0, .int .u64 0, .int .u64 0] 25)) (W.heap.size + 1) (.slice none 0 0) (.slice (some ⟨g, 0, none⟩) 0 cap) from (b5.block _ hst4.lt).trans hst4)
  have hE5 := owns_of hE4 (b5.block _ hE4.lt)
  have m5 := (b5.block _ (by omega)).trans k4
  have f6 := f5.trans (b5.mono f5.size)
  clear b5 hb5 k4 q4 cL hE4 hst4 hS4
  generalize w5.alloc (.cells #[.int .u64 0, .int .u64 0, .int .u64 0, .int .u64 0] 25) = wm at *
  have cM := Balance_miss hst5 ⟨#[98]⟩ (knw_b wm a1 (by decide) (fun h => by simp at h) hE5)
  go_wp2_with (go_at_call 11; refine cM.mono ?_; rintro e w6 ⟨rfl, hb6⟩; obtain ⟨x0, x1, x2, x3⟩ := cells4w ((hb6.block _ (by omega)).trans m5); obtain ⟨y0, y1, y2, y3⟩ := cells4w ((hb6.block _ (by omega)).trans k5); have s6 := hb6.size; have n1 : w3.heap.size < w6.heap.size := (by omega); have n2 : w5.heap.size < w6.heap.size := (by omega))
  refine bodyPost_ret (by simp only [results, Tryd.results9]; go_simp; try rfl) rfl ⟨rfl, ?_⟩
  exact (f6.trans (hb6.mono f6.size)).alloc (by omega) _
end Go.Proofs.YtcdjdnbdblpofaaDoor
