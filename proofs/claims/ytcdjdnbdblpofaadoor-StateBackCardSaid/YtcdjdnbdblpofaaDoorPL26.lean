/-
  SameLogs of a list and itself. Conditions: the lists, and the logs' topics, can be read.
-/
import Derived.Test.YtcdjdnbdblpofaaDoorPL21
import Derived.Test.YtcdjdnbdblpofaaDoorPL16
namespace Go.Proofs.YtcdjdnbdblpofaaDoor
open Go.RowKit Go.Maps
attribute [local go_sem] leftBy leaves
set_option linter.unusedSimpArgs false
set_option linter.unusedVariables false

/-- A log's topics can be read. -/
def topV (W : World) (x : Lg) : Prop := x.tops.length = x.tn ∧ x.tn ≤ x.tc ∧ x.tc ≤ maxLen ∧ ∀ j s, x.tops[j]? = some s → ∃ tb to', x.tp = some ⟨tb, to', none⟩ ∧ W.cell? ⟨tb, to' + j, none⟩ = some (.string s)
theorem topV.below {W W' : World} {x : Lg} (h : topV W x) (hb : Below W.heap.size W W') : topV W' x := by
  obtain ⟨h1, h2, h3, h4⟩ := h
  refine ⟨h1, h2, h3, fun j s hs => ?_⟩
  obtain ⟨tb, t0, e, hc⟩ := h4 j s hs
  exact ⟨tb, t0, e, (hb.cell (p := ⟨tb, t0 + j, none⟩) (cell_lt hc)).trans hc⟩
theorem Fr.toBel {W W' : World} (h : Fr (fun _ => False) W W') : Below W.heap.size W W' := ⟨h.os, h.tape, h.output, h.size, fun k hk => h.block k hk id⟩

set_option maxRecDepth 100000 in
set_option maxHeartbeats 16000000 in
theorem SameLogs_same {W : World} {va vb : Value} {l : List Lg} (ha : lgV W va l) (hb : lgV W vb l) (ht : ∀ x ∈ l, topV W x) (hl : l.length ≤ 1000000) :
    Calls Tryd.prog 20 #[va, vb] W fun e w' => e = .returned (.bool true) ∧ Below W.heap.size W w' := by
  obtain ⟨a, ca, rfl, a1, a2, ha⟩ := ha
  obtain ⟨b, cb, rfl, b1, b2, hb⟩ := hb
  unfold maxLen at a2 b2
  by_cases hz : l.length = 0
  · rw [hz]
    go_enter Tryd.func20, Tryd.ntmps20
    go_wp2
    go_loopw [5] (fun v wr => v = .int .i64 0 ∧ wr = W) (fun _ _ => 0)
    case atStart => exact ⟨rfl, rfl⟩
    case round =>
      obtain ⟨rfl, rfl⟩ := hrel
      go_wp2
      go_ret
      exact ⟨rfl, Below.refl _ _⟩
  have hget : ∀ i, i < l.length → ∃ x, l[i]? = some x := fun i hi => ⟨_, List.getElem?_eq_getElem hi⟩
  obtain ⟨x0, hx0⟩ := hget 0 (by omega)
  obtain ⟨ba, oa, rfl, hd1⟩ := ha 0 x0 hx0
  clear hd1
  obtain ⟨bb, ob, rfl, hd1⟩ := hb 0 x0 hx0
  clear hd1
  have hA : ∀ i x, l[i]? = some x → W.cell? ⟨ba, oa + i * 3, none⟩ = some (.string x.ad) ∧ W.cell? ⟨ba, oa + i * 3 + 1, none⟩ = some (.slice x.tp x.tn x.tc) ∧ W.cell? ⟨ba, oa + i * 3 + 2, none⟩ = some (.string x.dt) := fun i x hx => by
    obtain ⟨b', o', e, h⟩ := ha i x hx
    obtain ⟨rfl, rfl⟩ : ba = b' ∧ oa = o' := by simpa using e
    exact h
  have hB : ∀ i x, l[i]? = some x → W.cell? ⟨bb, ob + i * 3, none⟩ = some (.string x.ad) ∧ W.cell? ⟨bb, ob + i * 3 + 1, none⟩ = some (.slice x.tp x.tn x.tc) ∧ W.cell? ⟨bb, ob + i * 3 + 2, none⟩ = some (.string x.dt) := fun i x hx => by
    obtain ⟨b', o', e, h⟩ := hb i x hx
    obtain ⟨rfl, rfl⟩ : bb = b' ∧ ob = o' := by simpa using e
    exact h
  have HA := Lib.hid hA
  have HB := Lib.hid hB
  have HT := Lib.hid ht
  have HG := Lib.hid hget
  clear ha hb hA hB ht hget hz hx0 x0
  have hl1 : l.length ≤ 9223372036854775807 := by omega
  go_enter Tryd.func20, Tryd.ntmps20
  go_wp2
  go_loopw [5] (fun v wr => ∃ i : Nat, i ≤ l.length ∧ v = .int .i64 (i : Nat) ∧ Fr (fun _ => False) W wr) (fun v _ => l.length - (intOf v).toNat)
  case atStart => exact ⟨0, Nat.zero_le _, rfl, Fr.refl _ _⟩
  case round =>
    obtain ⟨i, hi, rfl, hF⟩ := hrel
    by_cases hlt : i < l.length
    · obtain ⟨x, hx⟩ := HG.out i hlt
      obtain ⟨p0, p1, p2⟩ := HA.out i x hx
      obtain ⟨q0, q1, q2⟩ := HB.out i x hx
      obtain ⟨ad, tp, tn, tc, dt, tops⟩ := x
      dsimp only at *
      rcases Nat.eq_zero_or_pos tn with htz | htz
      · have HX := Lib.hid (HT.out _ (List.mem_of_getElem? hx))
        have HF := Lib.hid hF
        have HH := Lib.hid hx
        have g0 := hF.cell p0 id (cell_lt p0)
        have g1 := hF.cell p1 id (cell_lt p1)
        have g2 := hF.cell p2 id (cell_lt p2)
        have k0 := hF.cell q0 id (cell_lt q0)
        have k1 := hF.cell q1 id (cell_lt q1)
        have k2 := hF.cell q2 id (cell_lt q2)
        have la := cell_lt g0
        have lb' := cell_lt k0
        dsimp only at la lb'
        clear p0 p1 p2 q0 q1 q2 hx hF
        go_wp2
        refine wp_flowU (fun k => ([1, 1, 1, 1, 1, 1, 1, 1, 1, 1, 1, 1, 1, 1, 1, 1, 1, 1, 1, 1, 1, 1, 1, 1, 1, 1, 1, 1, 1, 1, 1, 1, 1, 1, 1, 1, 1, 1, 1] : List Nat).getD k 1) (fun (_ : Unit) w' => Fr (fun _ => False) wr w') (fun _ => True) (()) (Fr.drew (Fr.refl _ _)) trivial (by kernel_rfl) (by kernel_rfl) ?_
        iterate 12 ((refine flowU_readE rfl rfl (fun K hK => ?_); apply Exists.intro; apply And.intro; (focus (intro w' hR; have y0 := hR.cell g0 id la; have y1 := hR.cell g1 id la; have y2 := hR.cell g2 id la; have z0 := hR.cell k0 id lb'; have z1 := hR.cell k1 id lb'; have z2 := hR.cell k2 id lb'; clear hR; go_simp; (try go_bits); exact rfl)); go_simp; (try go_bits); refine hK _ ?_; clear hK K))
        iterate 11 (first | (refine flowU_skip rfl (fun K hK => ?_); go_simp; (try go_bits); refine hK _ ?_; clear hK K) | (refine flowU_readE rfl rfl (fun K hK => ?_); apply Exists.intro; apply And.intro; (focus (intro w' hR; have y0 := hR.cell g0 id la; have y1 := hR.cell g1 id la; have y2 := hR.cell g2 id la; have z0 := hR.cell k0 id lb'; have z1 := hR.cell k1 id lb'; have z2 := hR.cell k2 id lb'; clear hR; go_simp; (try go_bits); exact rfl)); go_simp; (try go_bits); refine hK _ ?_; clear hK K))
        iterate 2 ((refine flowU_readE rfl rfl (fun K hK => ?_); apply Exists.intro; apply And.intro; (focus (intro w' hR; have y0 := hR.cell g0 id la; have y1 := hR.cell g1 id la; have y2 := hR.cell g2 id la; have z0 := hR.cell k0 id lb'; have z1 := hR.cell k1 id lb'; have z2 := hR.cell k2 id lb'; clear hR; go_simp; (try go_bits); exact rfl)); go_simp; (try go_bits); refine hK _ ?_; clear hK K))
        iterate 13 (first | (refine flowU_skip rfl (fun K hK => ?_); go_simp; (try go_bits); refine hK _ ?_; clear hK K) | (refine flowU_readE rfl rfl (fun K hK => ?_); apply Exists.intro; apply And.intro; (focus (intro w' hR; have y0 := hR.cell g0 id la; have y1 := hR.cell g1 id la; have y2 := hR.cell g2 id la; have z0 := hR.cell k0 id lb'; have z1 := hR.cell k1 id lb'; have z2 := hR.cell k2 id lb'; clear hR; go_simp; (try go_bits); exact rfl)); go_simp; (try go_bits); refine hK _ ?_; clear hK K))
        (refine flowU_readE rfl rfl (fun K hK => ?_); apply Exists.intro; apply And.intro; (focus (intro w' hR; have y0 := hR.cell g0 id la; have y1 := hR.cell g1 id la; have y2 := hR.cell g2 id la; have z0 := hR.cell k0 id lb'; have z1 := hR.cell k1 id lb'; have z2 := hR.cell k2 id lb'; clear hR; go_simp; (try go_bits); exact rfl)); go_simp; (try go_bits); refine hK _ ?_; clear hK K)
        refine flowU_nil ?_
        intro w2 hR2
        have HF2 := Lib.hid (HF.out.trans ⟨hR2.os, hR2.tape, hR2.output, hR2.size, hR2.block⟩)
        clear hR2 HF g0 g1 g2 k0 k1 k2 la lb'
        obtain ⟨tl1, tl2, tl3, htop⟩ := HX.out
        have HTP := Lib.hid htop
        have HTL := Lib.hid tl1
        clear htop tl1
        unfold maxLen at tl3
        dsimp only at tl2 tl3
        have tl4 : tn ≤ 9223372036854775807 := by omega
        go_wp2
        obtain ⟨wo, rfl⟩ : ∃ wo : World, wo = wr := ⟨_, rfl⟩
        go_loopw [6] (fun v wr => ∃ k : Nat, k ≤ tn ∧ v = .int .i64 (k : Nat) ∧ Fr (fun _ => False) W wr) (fun v _ => tn - (intOf v).toNat)
        case atStart => exact ⟨0, Nat.zero_le _, rfl, HF2.out⟩
        case round =>
          obtain ⟨k, hk, rfl, hF⟩ := hrel
          obtain ⟨p0, p1, p2⟩ := HA.out i _ HH.out
          obtain ⟨q0, q1, q2⟩ := HB.out i _ HH.out
          have g1 := hF.cell p1 id (cell_lt p1)
          have k1 := hF.cell q1 id (cell_lt q1)
          have la := cell_lt g1
          have lb' := cell_lt k1
          dsimp only at la lb'
          clear p0 p1 p2 q0 q1 q2
          by_cases hkt : k < tn
          · exfalso; omega
          · obtain rfl : k = tn := by omega
            have HF3 := Lib.hid hF
            clear hF
            go_wp2
            exact ⟨⟨i + 1, by omega, by go_num, HF3.out⟩, by simp [intOf]; omega⟩
      · obtain ⟨tb, to', htp0⟩ : ∃ tb to', tp = some ⟨tb, to', none⟩ := by
          obtain ⟨h1, _, _, h4⟩ := HT.out _ (List.mem_of_getElem? hx)
          dsimp only at h1 h4
          obtain ⟨tb, t0, e, _⟩ := h4 0 _ (List.getElem?_eq_getElem (by omega))
          exact ⟨tb, t0, e⟩
        subst htp0
        have HX := Lib.hid (HT.out _ (List.mem_of_getElem? hx))
        have HF := Lib.hid hF
        have HH := Lib.hid hx
        have g0 := hF.cell p0 id (cell_lt p0)
        have g1 := hF.cell p1 id (cell_lt p1)
        have g2 := hF.cell p2 id (cell_lt p2)
        have k0 := hF.cell q0 id (cell_lt q0)
        have k1 := hF.cell q1 id (cell_lt q1)
        have k2 := hF.cell q2 id (cell_lt q2)
        have la := cell_lt g0
        have lb' := cell_lt k0
        dsimp only at la lb'
        clear p0 p1 p2 q0 q1 q2 hx hF
        go_wp2
        refine wp_flowU (fun k => ([1, 1, 1, 1, 1, 1, 1, 1, 1, 1, 1, 1, 1, 1, 1, 1, 1, 1, 1, 1, 1, 1, 1, 1, 1, 1, 1, 1, 1, 1, 1, 1, 1, 1, 1, 1, 1, 1, 1] : List Nat).getD k 1) (fun (_ : Unit) w' => Fr (fun _ => False) wr w') (fun _ => True) (()) (Fr.drew (Fr.refl _ _)) trivial (by kernel_rfl) (by kernel_rfl) ?_
        iterate 12 ((refine flowU_readE rfl rfl (fun K hK => ?_); apply Exists.intro; apply And.intro; (focus (intro w' hR; have y0 := hR.cell g0 id la; have y1 := hR.cell g1 id la; have y2 := hR.cell g2 id la; have z0 := hR.cell k0 id lb'; have z1 := hR.cell k1 id lb'; have z2 := hR.cell k2 id lb'; clear hR; go_simp; (try go_bits); exact rfl)); go_simp; (try go_bits); refine hK _ ?_; clear hK K))
        iterate 11 (first | (refine flowU_skip rfl (fun K hK => ?_); go_simp; (try go_bits); refine hK _ ?_; clear hK K) | (refine flowU_readE rfl rfl (fun K hK => ?_); apply Exists.intro; apply And.intro; (focus (intro w' hR; have y0 := hR.cell g0 id la; have y1 := hR.cell g1 id la; have y2 := hR.cell g2 id la; have z0 := hR.cell k0 id lb'; have z1 := hR.cell k1 id lb'; have z2 := hR.cell k2 id lb'; clear hR; go_simp; (try go_bits); exact rfl)); go_simp; (try go_bits); refine hK _ ?_; clear hK K))
        iterate 2 ((refine flowU_readE rfl rfl (fun K hK => ?_); apply Exists.intro; apply And.intro; (focus (intro w' hR; have y0 := hR.cell g0 id la; have y1 := hR.cell g1 id la; have y2 := hR.cell g2 id la; have z0 := hR.cell k0 id lb'; have z1 := hR.cell k1 id lb'; have z2 := hR.cell k2 id lb'; clear hR; go_simp; (try go_bits); exact rfl)); go_simp; (try go_bits); refine hK _ ?_; clear hK K))
        iterate 13 (first | (refine flowU_skip rfl (fun K hK => ?_); go_simp; (try go_bits); refine hK _ ?_; clear hK K) | (refine flowU_readE rfl rfl (fun K hK => ?_); apply Exists.intro; apply And.intro; (focus (intro w' hR; have y0 := hR.cell g0 id la; have y1 := hR.cell g1 id la; have y2 := hR.cell g2 id la; have z0 := hR.cell k0 id lb'; have z1 := hR.cell k1 id lb'; have z2 := hR.cell k2 id lb'; clear hR; go_simp; (try go_bits); exact rfl)); go_simp; (try go_bits); refine hK _ ?_; clear hK K))
        (refine flowU_readE rfl rfl (fun K hK => ?_); apply Exists.intro; apply And.intro; (focus (intro w' hR; have y0 := hR.cell g0 id la; have y1 := hR.cell g1 id la; have y2 := hR.cell g2 id la; have z0 := hR.cell k0 id lb'; have z1 := hR.cell k1 id lb'; have z2 := hR.cell k2 id lb'; clear hR; go_simp; (try go_bits); exact rfl)); go_simp; (try go_bits); refine hK _ ?_; clear hK K)
        refine flowU_nil ?_
        intro w2 hR2
        have HF2 := Lib.hid (HF.out.trans ⟨hR2.os, hR2.tape, hR2.output, hR2.size, hR2.block⟩)
        clear hR2 HF g0 g1 g2 k0 k1 k2 la lb'
        obtain ⟨tl1, tl2, tl3, htop⟩ := HX.out
        have HTP := Lib.hid htop
        have HTL := Lib.hid tl1
        clear htop tl1
        unfold maxLen at tl3
        dsimp only at tl2 tl3
        have tl4 : tn ≤ 9223372036854775807 := by omega
        go_wp2
        obtain ⟨wo, rfl⟩ : ∃ wo : World, wo = wr := ⟨_, rfl⟩
        go_loopw [6] (fun v wr => ∃ k : Nat, k ≤ tn ∧ v = .int .i64 (k : Nat) ∧ Fr (fun _ => False) W wr) (fun v _ => tn - (intOf v).toNat)
        case atStart => exact ⟨0, Nat.zero_le _, rfl, HF2.out⟩
        case round =>
          obtain ⟨k, hk, rfl, hF⟩ := hrel
          obtain ⟨p0, p1, p2⟩ := HA.out i _ HH.out
          obtain ⟨q0, q1, q2⟩ := HB.out i _ HH.out
          have g1 := hF.cell p1 id (cell_lt p1)
          have k1 := hF.cell q1 id (cell_lt q1)
          have la := cell_lt g1
          have lb' := cell_lt k1
          dsimp only at la lb'
          clear p0 p1 p2 q0 q1 q2
          by_cases hkt : k < tn
          · obtain ⟨s, hs⟩ : ∃ s, tops[k]? = some s := ⟨_, List.getElem?_eq_getElem (by rw [HTL.out]; exact hkt)⟩
            obtain ⟨tb2, to2, htp, hc⟩ := HTP.out k s hs
            obtain ⟨rfl, rfl⟩ : tb = tb2 ∧ to' = to2 := by simpa using htp
            clear htp
            have hc' := hF.cell hc id (cell_lt hc)
            have lc := cell_lt hc'
            dsimp only at lc
            have HF3 := Lib.hid hF
            clear hF hs hc
            go_wp2
            refine wp_flowU (fun k => ([1, 1, 1, 1, 1, 1, 1, 1, 1, 1, 1, 1, 1, 1, 1, 1, 1] : List Nat).getD k 1) (fun (_ : Unit) w' => Fr (fun _ => False) wr w') (fun _ => True) (()) (Fr.drew (Fr.refl _ _)) trivial (by kernel_rfl) (by kernel_rfl) ?_
            iterate 17 ((refine flowU_readE rfl rfl (fun K hK => ?_); apply Exists.intro; apply And.intro; (focus (intro w' hR; have y1 := hR.cell g1 id la; have z1 := hR.cell k1 id lb'; have yc := hR.cell hc' id lc; clear hR; go_simp; (try go_bits); exact rfl)); go_simp; (try go_bits); refine hK _ ?_; clear hK K))
            refine flowU_nil ?_
            intro w3 hR3
            have HF4 := Lib.hid (HF3.out.trans ⟨hR3.os, hR3.tape, hR3.output, hR3.size, hR3.block⟩)
            clear hR3 HF3 g1 k1 la lb' hc' lc
            go_wp2
            go_roundw
            case rel => exact ⟨k + 1, by omega, by go_num, HF4.out⟩
            case measure => simp [intOf]; omega
          · obtain rfl : k = tn := by omega
            have HF3 := Lib.hid hF
            clear hF
            go_wp2
            exact ⟨⟨i + 1, by omega, by go_num, HF3.out⟩, by simp [intOf]; omega⟩
    · obtain rfl : i = l.length := by omega
      go_wp2
      go_ret
      exact ⟨rfl, hF.toBel⟩
end Go.Proofs.YtcdjdnbdblpofaaDoor
