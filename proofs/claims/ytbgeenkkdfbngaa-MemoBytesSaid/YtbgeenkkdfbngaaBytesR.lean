/-
  The contract of the document's Bytes. Conditions: none.
-/
import Derived.Test.YtbgeenkkdfbngaaBytes
import Derived.WalkKit
import Derived.OwnWalk
import Derived.Lib.Hide
namespace Go.Proofs.Ytbgeenkkdfbngaa
open Go.RowKit
attribute [local go_sem] leftBy
set_option linter.unusedSimpArgs false
set_option linter.unusedVariables false


/-- Block g begins with the n bytes f. -/
def byRow (W : World) (g n : Nat) (f : Nat → Nat) : Prop := ∃ cur, W.heap[g]? = some (.cells cur 5 (0, 0)) ∧ ∀ j, j < n → cur[j]? = some (.int .u8 (f j : Nat))
theorem byRow.cellAt {W : World} {g n j : Nat} {f : Nat → Nat} (h : byRow W g n f) (hj : j < n) : W.cell? ⟨g, j, none⟩ = some (.int .u8 (f j : Nat)) := by
  obtain ⟨c, h, h2⟩ := h
  rw [cell_of_row W g j _ _ _ h, h2 j hj]

/-- The first n of the bytes f. -/
def byL (n : Nat) (f : Nat → Nat) : List Value := (List.range n).map fun k => Value.int .u8 (f k : Nat)
theorem byL_succ (n : Nat) (f : Nat → Nat) : byL (n + 1) f = byL n f ++ [.int .u8 (f n : Nat)] := by unfold byL; rw [List.range_succ, List.map_append]; rfl
theorem byL_zero (f : Nat → Nat) : byL 0 f = [] := rfl

theorem owns_byRow {W : World} {base n : Nat} {v : Value} {f : Nat → Nat} (h : W.ownsRow base 5 1 v n (byL n f)) (hn : 0 < n) : ∃ g cap, v = .slice (some ⟨g, 0, none⟩) n cap ∧ base ≤ g ∧ n ≤ cap ∧ byRow W g n f := by
  rcases h.2 with ⟨_, h0⟩ | ⟨g, cap, cur, hv, hb, hg, hc, _, hs, ht⟩
  · omega
  · refine ⟨g, cap, hv, hb, hc, cur, hg, fun j hj => ?_⟩
    have h1 : (byL n f)[j]? = some (.int .u8 (f j : Nat)) := by simp [byL, hj]
    rw [← ht, List.getElem?_take, if_pos (by omega)] at h1
    simpa using h1

/-- An append onto a row of its own leaves what lies ahead of it. -/
theorem owns_stepY {w wr w2 : World} {B n a k : Nat} {v : Value} {xs : List Value} {ty : TypeId} {t2 : TypeId} {o : Obj} (hown : wr.ownsRow B t2 1 v n xs) (hrow : rowW ty wr k a) (hkB : k < B) (hbel : Below w.heap.size w wr) (hB : w.heap.size ≤ B) (hg : (wr.alloc o).grownBy w2 v.ownBlock) :
    rowW ty w2 k a ∧ Below w.heap.size w w2 := by
  have hlt := hrow.lt
  have hsz := hbel.size
  have hne : ∀ k, v.ownBlock = some k → B ≤ k := fun k hk => (hown.lt k hk).1
  refine ⟨?_, ?_⟩
  · refine (hg.block k (by simp; omega) fun e => ?_).trans (hrow.alloc o)
    have := hne k e.symm
    omega
  · refine (hbel.alloc (by omega) o).grown hg (by simp; omega) fun k hk => ?_
    have := hne k hk
    omega

theorem infoY : (Try.prog.info? 5).map (fun i => (i.zero, i.size, i.bytes)) = some (some (.int .u8 0), 1, 1) := by kernel_rfl

attribute [local irreducible] lb byteOf byL bytesS

set_option maxRecDepth 100000 in
set_option maxHeartbeats 4000000 in
/-- The document's Bytes. -/
theorem ref_Bytes (a : Nat) (ha : a < Q256) (w : World) :
    Calls Try.prog 31 #[W4 a] w fun e w' => e = .returned (.string (bytesS a)) ∧ Below w.heap.size w w' := by
  obtain ⟨i0, hi, hz0, hz1, hz2⟩ := info_parts infoY
  go_enter Try.func31, Try.ntmps31
  go_wp2
  go_loopw [3, 4] (fun v i wr => ∃ j : Nat, j ≤ 32 ∧ i = .int .i64 ((j : Int) - 1) ∧ wr.ownsRow (w.heap.size + 1) 5 1 v (32 - j) (byL (32 - j) (fun k => byteOf a (31 - k))) ∧ rowW 24 wr w.heap.size a ∧ Below w.heap.size w wr)
    (fun _ i _ => (intOf i + 1).toNat)
  case atStart =>
    refine ⟨32, by omega, by go_num, ?_, rowW.new rfl, ?_⟩
    · rw [show 32 - 32 = 0 from rfl, byL_zero]
      exact World.ownsRow_nil _ _ _ _
    · skip
      repeat (with_reducible first | exact Below.refl _ _ | assumption | refine below_drewN ?_ _ | refine Below.drew ?_ | refine Below.setCell ?_ (by first | omega | (simp; done) | (simp; omega)) _ | refine Below.alloc ?_ (by first | omega | (simp; done) | (simp; omega)) _ | refine Below.trans ?_ (Below.mono (by assumption) (by first | omega | (simp; done) | (simp; omega))))
  case round =>
    obtain ⟨j, hj, rfl, hown, ra, hbel⟩ := hrel
    have hsz := hbel.size
    have hlt := ra.lt
    cases j with
    | zero =>
      obtain ⟨g, cap, rfl, hg, hcap, hbits⟩ := owns_byRow hown (by omega)
      have hcv := string_of (cap := cap) fun j hj => hbits.cellAt hj
      go_wp2
      go_ret
      exact ⟨rfl, hbel⟩
    | succ j =>
      have e1 : ((j + 1 : Nat) : Int) - 1 = (j : Int) := by omega
      rw [e1]
      have hbl := byteOf_lb a (j / 8) (j % 8) (by omega)
      rw [show 8 * (j / 8) + j % 8 = j by omega] at hbl
      have cp := ra.cellAt (j := j / 8) (by omega)
      have hv : ((lb a (j / 8) : Nat) : Int) / 2 ^ (8 * (j % 8)) % 256 = ((byteOf a j : Nat) : Int) := by rw [← hbl]; push_cast; rfl
      clear hbl
      go_wp2_with (at_builtin; refine wpList_append_own _ rfl (.tmp 9) (.tmp 19) 51 rfl (w.heap.size + 1) 5 i0 (.int .u8 0) 1 1 Try.underlying51 hi hz0 hz1 hz2 rfl (by decide) _ _ _ rfl (hown.alloc _) ⟨wr.heap.size, 0, none⟩ 1 1 [.int .u8 (byteOf a j : Nat)] rfl rfl ?c1 ?c2 ?c3 ?c4 ?c5 ?_)
      case c1 =>
        intro k u hk
        match k, hk with
        | 0, hk => simp at hk; subst hk; simp [Addr.add]
      case c2 => intro u hu; simp at hu; subst hu; rfl
      case c3 => unfold maxLen; omega
      case c4 => omega
      case c5 => simp; omega
      intro v' w2 hown' hgrow _
      have hS := Lib.hid (owns_stepY hown ra (by omega) hbel (by omega) hgrow)
      have e3 : byL (32 - j) (fun k => byteOf a (31 - k)) = byL (31 - j) (fun k => byteOf a (31 - k)) ++ [.int .u8 (byteOf a j : Nat)] := by
        rw [show 32 - j = 31 - j + 1 by omega, byL_succ]
        simp only [show 31 - (31 - j) = j by omega]
      have hO : w2.ownsRow (w.heap.size + 1) 5 1 v' (32 - j) (byL (32 - j) (fun k => byteOf a (31 - k))) := by
        rw [e3, show 32 - j = 31 - j + 1 by omega]
        exact hown'
      clear hown' hgrow e3
      go_wp2
      go_roundw
      case rel => exact ⟨j, by omega, rfl, hO, hS.out⟩
      case measure => simp [intOf]
end Go.Proofs.Ytbgeenkkdfbngaa
