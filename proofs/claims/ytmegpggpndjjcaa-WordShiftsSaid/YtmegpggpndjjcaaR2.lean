/-
  Contracts of the document's functions on bits of words. Conditions: none.
-/
import Derived.Test.YtmegpggpndjjcaaR1
import Derived.Test.YtmegpggpndjjcaaBitA
import Derived.WalkKit
import Derived.OwnWalk
namespace Go.Proofs.Ytmegpggpndjjcaa
open Go.RowKit
attribute [local go_sem] leftBy
set_option linter.unusedSimpArgs false
set_option linter.unusedVariables false


/-- A word's bits. -/
def bitsOf (a : Nat) : Nat → Bool := fun k => bitOf a k == 1
/-- A word's lowest j bits. -/
def bitsTo (a j : Nat) : Nat → Bool := fun k => decide (k < j) && (bitOf a k == 1)

theorem bitsTo_zero (a k : Nat) : bitsTo a 0 k = false := by simp [bitsTo]
theorem bitsTo_all (a k : Nat) (h : k < 256) : bitsTo a 256 k = bitsOf a k := by simp [bitsTo, bitsOf, h]
theorem bitsTo_succ (a j k : Nat) : (if k = j then bitOf a j == 1 else bitsTo a j k) = bitsTo a (j + 1) k := by
  unfold bitsTo
  by_cases h : k = j
  · subst h; simp
  · rw [if_neg h]
    congr 1
    rw [decide_eq_decide]
    omega

theorem int_one (n : Nat) : (((n : Nat) : Int) == 1) = (n == 1) := by
  refine Bool.eq_iff_iff.2 ?_
  simp only [beq_iff_eq]
  omega

attribute [local irreducible] lb bitsOf bitsTo bitOf bitA

set_option maxRecDepth 100000 in
set_option maxHeartbeats 4000000 in
/-- Bits. -/
theorem ref_Bits (a : Nat) (ha : a < Q256) (w : World) :
    Calls Try.prog 68 #[W4 a] w fun e w' => e = .returned (.agg (bitA (bitsOf a))) ∧ Below w.heap.size w w' := by
  have hz := zeroA
  go_enter Try.func68, Try.ntmps68
  go_wp2
  go_loopw [4] (fun i wr => ∃ j : Nat, j ≤ 256 ∧ i = .int .i64 j ∧ rowA wr (w.heap.size + 1 + 1) (bitsTo a j) ∧ rowA wr (w.heap.size + 1) (fun _ => false) ∧ rowW 24 wr w.heap.size a ∧ Below w.heap.size w wr)
    (fun i _ => 256 - (intOf i).toNat)
  case atStart =>
    refine ⟨0, by omega, rfl, (rowA.new (by simp)).to fun k _ => (bitsTo_zero a k).symm, (rowA.new (by simp)).alloc _, ((rowW.new rfl).alloc _).alloc _, ?_⟩
    repeat (first | exact Below.refl _ _ | refine below_drewN ?_ _ | refine Below.drew ?_ | refine below_setRow' ?_ (by first | omega | (simp; done) | (simp; omega)) _ | refine Below.setCell ?_ (by first | omega | (simp; done) | (simp; omega)) _ | refine Below.alloc ?_ (by first | omega | (simp; done) | (simp; omega)) _ | refine Below.trans ?_ (Below.mono (by assumption) (by first | omega | (simp; done) | (simp; omega))))
  case round =>
    obtain ⟨j, hj, rfl, hrow, hres, ra, hbel⟩ := hrel
    have hsz := hbel.size
    have rf := hrow.free
    by_cases h256 : j < 256
    · have ca := ra.cellAt (j := j / 64) (by omega)
      have co := hrow.cellAt h256
      have hb := bit_and a j
      have hi1 : 0 ≤ (j : Int) / 64 := by omega
      have hi2 : (j : Int) / 64 < 4 := by omega
      have hi3 : ((j : Int) / 64).toNat = j / 64 := by omega
      have hi4 : 0 ≤ (j : Int) % 64 := by omega
      have hi5 : (j : Int) % 64 ≤ 64 := by omega
      have hi6 : ((j : Int) % 64).toNat = j % 64 := by omega
      go_wp2
      go_roundw
      case rel =>
        refine ⟨j + 1, by omega, by go_num, ?_, hres.set (by omega), ra.set (by omega), ?_⟩
        · rw [int_one (bitOf a j)]
          exact hrow.store.to fun k _ => bitsTo_succ a j k
        repeat (first | exact Below.refl _ _ | refine below_drewN ?_ _ | refine Below.drew ?_ | refine below_setRow' ?_ (by first | omega | (simp; done) | (simp; omega)) _ | refine Below.setCell ?_ (by first | omega | (simp; done) | (simp; omega)) _ | refine Below.alloc ?_ (by first | omega | (simp; done) | (simp; omega)) _ | refine Below.trans ?_ (Below.mono (by assumption) (by first | omega | (simp; done) | (simp; omega))))
      case measure => simp [intOf]; omega
    · obtain rfl : j = 256 := by omega
      have hrow' := hrow.to (bitsTo_all a)
      have hl := loadA hrow'
      have hs := storeA (bitsOf a) hres
      have hr := loadA (hres.setRow (bitsOf a))
      have hst := storeA' (bitsOf a) hres
      have hbz := bitA_size (bitsOf a)
      have hres' := hres.setRow (bitsOf a)
      clear hrow hl hs hr
      go_wp2
      refine wp_load_row 56 (.tmp 3) rfl _ rfl _ _ _ _ hrow' underA rfl (sizeA _) ?_
      go_wp2
      refine bodyPost_ret (results_cell_row (p := 2) (ty := 56) (by simp only [Try.results68]) _ _ (w.heap.size + 1) _ _ (0, 0) _ rfl hres' underA rfl (sizeA _)) rfl ⟨rfl, ?_⟩
      repeat (first | exact Below.refl _ _ | refine below_drewN ?_ _ | refine Below.drew ?_ | refine below_setRow' ?_ (by first | omega | (simp; done) | (simp; omega)) _ | refine Below.setCell ?_ (by first | omega | (simp; done) | (simp; omega)) _ | refine Below.alloc ?_ (by first | omega | (simp; done) | (simp; omega)) _ | refine Below.trans ?_ (Below.mono (by assumption) (by first | omega | (simp; done) | (simp; omega))))

/-! ### Slices of bits -/

/-- Block g begins with the n bits f. -/
def bitRow (W : World) (g n : Nat) (f : Nat → Bool) : Prop := ∃ cur, W.heap[g]? = some (.cells cur 4 (0, 0)) ∧ ∀ j, j < n → cur[j]? = some (.bool (f j))
theorem bitRow.lt {W : World} {g n : Nat} {f : Nat → Bool} (h : bitRow W g n f) : g < W.heap.size := let ⟨_, h, _⟩ := h; (Array.getElem?_eq_some_iff.1 h).1
theorem bitRow.below {W W' : World} {g n B : Nat} {f : Nat → Bool} (h : bitRow W g n f) (hb : Below B W W') (hg : g < B) : bitRow W' g n f := let ⟨c, h, h2⟩ := h; ⟨c, (hb.block g hg).trans h, h2⟩
theorem bitRow.cellAt {W : World} {g n j : Nat} {f : Nat → Bool} (h : bitRow W g n f) (hj : j < n) : W.cell? ⟨g, j, none⟩ = some (.bool (f j)) := by
  obtain ⟨c, h, h2⟩ := h
  rw [cell_of_row W g j _ _ _ h, h2 j hj]
theorem bitRow.to {W : World} {g n : Nat} {f f' : Nat → Bool} (h : bitRow W g n f) (e : ∀ j, j < n → f j = f' j) : bitRow W g n f' := let ⟨c, h, h2⟩ := h; ⟨c, h, fun j hj => by rw [h2 j hj, e j hj]⟩

/-- The first n of the bits f. -/
def bitL (n : Nat) (f : Nat → Bool) : List Value := (List.range n).map fun k => Value.bool (f k)
theorem bitL_succ (n : Nat) (f : Nat → Bool) : bitL (n + 1) f = bitL n f ++ [.bool (f n)] := by unfold bitL; rw [List.range_succ, List.map_append]; rfl
theorem bitL_zero (f : Nat → Bool) : bitL 0 f = [] := rfl

theorem owns_bitRow {W : World} {base n : Nat} {v : Value} {f : Nat → Bool} (h : W.ownsRow base 4 1 v n (bitL n f)) (hn : 0 < n) : ∃ g cap, v = .slice (some ⟨g, 0, none⟩) n cap ∧ base ≤ g ∧ n ≤ cap ∧ bitRow W g n f := by
  rcases h.2 with ⟨_, h0⟩ | ⟨g, cap, cur, hv, hb, hg, hc, _, hs, ht⟩
  · omega
  · refine ⟨g, cap, hv, hb, hc, cur, hg, fun j hj => ?_⟩
    have h1 : (bitL n f)[j]? = some (.bool (f j)) := by simp [bitL, hj]
    rw [← ht, List.getElem?_take, if_pos (by omega)] at h1
    simpa using h1

/-- An append onto a row of its own leaves what lies ahead of it. -/
theorem owns_step {w wr w2 : World} {B n : Nat} {v : Value} {xs : List Value} {f : Nat → Bool} {o : Obj} (hown : wr.ownsRow (B + 1) 4 1 v n xs) (hrow : rowA wr B f) (hbel : Below w.heap.size w wr) (hB : w.heap.size ≤ B) (hg : (wr.alloc o).grownBy w2 v.ownBlock) :
    rowA w2 B f ∧ Below w.heap.size w w2 := by
  have hlt := hrow.lt
  have hne : ∀ k, v.ownBlock = some k → B + 1 ≤ k := fun k hk => (hown.lt k hk).1
  refine ⟨?_, ?_⟩
  · refine (hg.block B (by simp; omega) fun e => ?_).trans (hrow.alloc o)
    have := hne B e.symm
    omega
  · refine (hbel.alloc (by omega) o).grown hg (by simp; omega) fun k hk => ?_
    have := hne k hk
    omega

theorem infoB : (Try.prog.info? 4).map (fun i => (i.zero, i.size, i.bytes)) = some (some (.bool false), 1, 1) := by kernel_rfl

attribute [local irreducible] bitL

set_option maxRecDepth 100000 in
set_option maxHeartbeats 4000000 in
/-- high. -/
theorem ref_high (a : Nat) (ha : a < Q256) (w : World) :
    Calls Try.prog 59 #[W4 a] w fun e w' => ∃ g cap, e = .returned (.slice (some ⟨g, 0, none⟩) 256 cap) ∧ w.heap.size ≤ g ∧ 256 ≤ cap ∧ bitRow w' g 256 (fun j => bitsOf a (255 - j)) ∧ Below w.heap.size w w' := by
  have hz := zeroA
  obtain ⟨i0, hi, hz0, hz1, hz2⟩ := info_parts infoB
  go_enter Try.func59, Try.ntmps59
  go_wp2_with (go_at_call 68; refine (ref_Bits a ha _).mono ?_; rintro e w1 ⟨rfl, hb_w1⟩; have hbz := bitA_size (bitsOf a); have hst := (storeA' (bitsOf a) (rowA.new (W := w1) (f := fun _ => false) rfl)).trans (congrArg _ (World.setRow_alloc_new w1 (bitA fun _ => false) (bitA (bitsOf a)) 56)))
  go_loopw [4, 5] (fun v i wr => ∃ j : Nat, j ≤ 256 ∧ i = .int .i64 ((j : Int) - 1) ∧ wr.ownsRow (w1.heap.size + 1) 4 1 v (256 - j) (bitL (256 - j) (fun k => bitsOf a (255 - k))) ∧ rowA wr w1.heap.size (bitsOf a) ∧ Below w.heap.size w wr)
    (fun _ i _ => (intOf i + 1).toNat)
  case atStart =>
    refine ⟨256, by omega, by go_num, ?_, rowA.new rfl, ?_⟩
    · rw [show 256 - 256 = 0 from rfl, bitL_zero]
      exact World.ownsRow_nil _ _ _ _
    · have hw1 : w.heap.size + 1 ≤ w1.heap.size := by have := hb_w1.size; simpa using this
      repeat (first | exact Below.refl _ _ | refine below_drewN ?_ _ | refine Below.drew ?_ | refine below_setRow' ?_ (by first | omega | (simp; done) | (simp; omega)) _ | refine Below.setCell ?_ (by first | omega | (simp; done) | (simp; omega)) _ | refine Below.alloc ?_ (by first | omega | (simp; done) | (simp; omega)) _ | refine Below.trans ?_ (Below.mono (by assumption) (by first | omega | (simp; done) | (simp; omega))))
  case round =>
    obtain ⟨j, hj, rfl, hown, hrow, hbel⟩ := hrel
    have hsz := hbel.size
    have hlt := hrow.lt
    cases j with
    | zero =>
      obtain ⟨g, cap, rfl, hg, hcap, hbits⟩ := owns_bitRow hown (by omega)
      have hwg : w.heap.size ≤ g := by have := hb_w1.size; simp only [World.size_alloc] at this; omega
      go_wp2
      go_ret
      exact ⟨g, cap, rfl, hwg, hcap, hbits, hbel⟩
    | succ j =>
      have hco := hrow.cellAt (j := j) (by omega)
      have e1 : ((j + 1 : Nat) : Int) - 1 = (j : Int) := by omega
      rw [e1]
      go_wp2_with (at_builtin; refine wpList_append_own _ rfl (.tmp 12) (.tmp 16) 43 rfl (w1.heap.size + 1) 4 i0 (.bool false) 1 1 Try.underlying43 hi hz0 hz1 hz2 rfl (by decide) _ _ _ rfl (hown.alloc _) ⟨wr.heap.size, 0, none⟩ 1 1 [.bool (bitsOf a j)] rfl rfl ?c1 ?c2 ?c3 ?c4 ?c5 ?_)
      case c1 =>
        intro k u hk
        match k, hk with
        | 0, hk => simp at hk; subst hk; simp [Addr.add]
      case c2 => intro u hu; simp at hu; subst hu; rfl
      case c3 => unfold maxLen; omega
      case c4 => omega
      case c5 => simp; omega
      intro v' w2 hown' hgrow _
      have hS := Lib.hid (owns_step hown hrow hbel (by have := hb_w1.size; simp only [World.size_alloc] at this; omega) hgrow)
      have e3 : bitL (256 - j) (fun k => bitsOf a (255 - k)) = bitL (255 - j) (fun k => bitsOf a (255 - k)) ++ [.bool (bitsOf a j)] := by
        rw [show 256 - j = 255 - j + 1 by omega, bitL_succ]
        simp only [show 255 - (255 - j) = j by omega]
      have hO : w2.ownsRow (w1.heap.size + 1) 4 1 v' (256 - j) (bitL (256 - j) (fun k => bitsOf a (255 - k))) := by
        rw [e3, show 256 - j = 255 - j + 1 by omega]
        exact hown'
      clear hown' hgrow e3
      go_wp2
      go_roundw
      case rel => exact ⟨j, by omega, rfl, hO, hS.out⟩
      case measure => simp [intOf]
end Go.Proofs.Ytmegpggpndjjcaa
