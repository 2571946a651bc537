/-
  The iterator over the bits of a number that lies in a row of words, the highest first: its contract. Conditions: none.
-/
import Derived.RangeFuncNested
import Derived.RangeFuncBound
import Derived.RangeFuncCalls
import Derived.RangeFuncLeaves
import Derived.Shelf.Abstract
import Derived.Shelf.RegionOpen
import Derived.WalkKit
import Derived.OwnWalkIn
import Derived.TacticsInMore
import Derived.LoopNIn
import Derived.LoopIn
import Derived.Lib.Hide
import Derived.Test.YtmegpggpndjjcaaProg
import Derived.Test.YtmegpggpndjjcaaFlow
import Derived.Test.YtmegpggpndjjcaaRange
import Derived.Test.YtmegpggpndjjcaaBits
namespace Go.Proofs.Ytmegpggpndjjcaa
open Go.RowKit Go.Shelf
attribute [local go_sem] Oper.semAt_some

/-- A place and a bit. -/
abbrev PB := { p : Nat × Nat // p.1 < 512 ∧ p.2 ≤ 1 }
def pb (x n : Nat) (h : n < 512) : PB := ⟨(n, bitOf x n), h, bitOf_le _ _⟩

/-- The pairs from place N - 1 down. -/
def down (x : Nat) : (N : Nat) → List PB
  | 0 => []
  | N + 1 => ⟨(N % 512, bitOf x N), Nat.mod_lt _ (by decide), bitOf_le _ _⟩ :: down x N


theorem down_length (x N : Nat) : (down x N).length = N := by
  induction N with
  | zero => rfl
  | succ N ih => simp [down, ih]

set_option maxRecDepth 100000 in
set_option maxHeartbeats 2000000 in
theorem ones1_in (n L : Nat) (hL : 1 ≤ L) (hL8 : L ≤ 8) (hn : 1 ≤ n) (l Bs A x : Nat) (hx : x < 2 ^ (64 * L)) (J Jx : List PB → World → Prop)
    (hY : ∀ pre p W, J pre W → pre.length < 64 * L → YieldAt (FW none) (n - 1) Try.prog l #[.int .i64 (p.val.1 : Nat), .int .u64 (p.val.2 : Nat)] W fun e W' =>
      (e = .returned (.bool true) ∧ J (pre ++ [p]) W' ∧ KB A Bs W W') ∨ (e = .returned (.bool false) ∧ Jx (pre ++ [p]) W'))
    (W : World) (hBs : W.cell? ⟨Bs, 0, none⟩ = some (.slice (some ⟨A, 0, none⟩) L L)) (hc : ∀ j, j < L → W.cell? ⟨A, j, none⟩ = some (.int .u64 (lb x j : Nat))) (h0 : J [] W) :
    CallsIn (FW none) n Try.prog 79 #[.func (.yield l) #[] #[], .pointer (some ⟨Bs, 0, none⟩)] W fun e W' => (∃ v, e = .returned v) ∧
      ((∃ ys, (∃ N, N ≤ 64 * L ∧ x < 2 ^ N ∧ ys = down x N) ∧ J ys W') ∨ (∃ pre, True ∧ Jx pre W')) := by
  refine callsIn_of_wp Try.func79 rfl trivial ?_ rfl
  simp only [Try.ntmps79, List.size_toArray, List.length_cons, List.length_nil, Nat.reduceAdd, Nat.reduceSub, Array.replicate_succ, Array.replicate_zero, List.push_toArray, List.append_toArray, List.nil_append, List.cons_append]
  gi_wp2
  gi_loopw [3] (fun i wr => ∃ k : Nat, k ≤ 64 * L ∧ i = .int .i64 k ∧ Hid (x < 2 ^ k) ∧ wr = W)
    (fun i _ => (intOf i).toNat)
  case atStart => exact ⟨64 * L, by omega, by go_num, hx, rfl⟩
  case round =>
    obtain ⟨k, hk, rfl, hxk, rfl⟩ := hrel
    by_cases hk0 : 0 < k
    · obtain ⟨m, rfl⟩ : ∃ m, k = m + 1 := ⟨k - 1, by omega⟩
      have hcm := hc (m / 64) (by omega)
      have hba := bit_and x m
      have hbl := bitOf_le x m
      by_cases hb : bitOf x m = 0
      · have ht : (((bitOf x m : Nat) : Int) == 0) = true := by rw [hb]; rfl
        have hx2 := Lib.hid (bitOf_zero_lt hxk.out hb)
        clear hb hxk
        gi_wp2
        go_roundw
        case rel => exact ⟨m, by omega, rfl, hx2, trivial⟩
        case measure => simp [intOf]
      · have ht : (((bitOf x m : Nat) : Int) == 0) = false := by
          have : bitOf x m = 1 := by omega
          rw [this]; rfl
        clear hb
        gi_wp2
        clear hx
        obtain ⟨wo, rfl⟩ : ∃ wo : World, wo = wr := ⟨_, rfl⟩
        gi_loopw [3] (fun i wr => ∃ (j : Nat) (pre : List PB), j ≤ (m + 1) ∧ i = .int .i64 ((j : Int) - 1) ∧ Hid (down x (m + 1) = pre ++ down x j) ∧ J pre wr ∧ KB A Bs wo wr)
          (fun i _ => (intOf i + 1).toNat)
        case atStart => exact ⟨(m + 1), [], Nat.le_refl _, by go_num, rfl, h0, rfl, rfl⟩
        case round =>
          obtain ⟨j, pre, hj, rfl, hpre, hJp, hkb⟩ := hrel
          have hBs2 : wr.cell? ⟨Bs, 0, none⟩ = some (.slice (some ⟨A, 0, none⟩) L L) := (World.cell?_of_block (w := wo) hkb.2).trans hBs
          cases j with
          | zero =>
            gi_wp2
            go_end0
            exact ⟨⟨_, rfl⟩, .inl ⟨_, ⟨(m + 1), by omega, hxk.out, rfl⟩, by rw [hpre.out]; simpa [down] using hJp⟩⟩
          | succ j =>
            have hj64 : j / 64 < L := by omega
            have hcj : wr.cell? ⟨A, j / 64, none⟩ = some (.int .u64 (lb x (j / 64) : Nat)) := (World.cell?_of_block (w := wo) hkb.1).trans (hc (j / 64) hj64)
            have hbj := bit_and x j
            have hlen : pre.length < 64 * L := by
              have h1 := congrArg List.length hpre.out
              simp only [down, List.length_append, List.length_cons, down_length] at h1
              omega
            have hstep : Hid (down x (m + 1) = (pre ++ [⟨(j, bitOf x j), by omega, bitOf_le _ _⟩]) ++ down x j) := by
              show _ = _
              rw [hpre.out, down, List.append_assoc]
              congr 2
              exact Subtype.ext (by simp; omega)
            have e1 : ((j + 1 : Nat) : Int) - 1 = (j : Int) := by omega
            rw [e1]
            obtain ⟨fn, tmps, assign, body, hy, hR⟩ := hY pre ⟨(j, bitOf x j), by omega, bitOf_le _ _⟩ wr hJp hlen
            dsimp only at hy
            clear hpre hY hlen hbj
            have hbj := bit_and x j
            gi_wp2
            refine hR.mono ?_
            rintro e W3 (⟨rfl, hJ3, hk3⟩ | ⟨rfl, hJx3⟩)
            · gi_wp2
              go_roundw
              case rel =>
                first | exact ⟨j, _, by omega, rfl, hstep, hJ3, hk3.1.trans hkb.1, hk3.2.trans hkb.2⟩ | ((repeat apply Exists.intro); exact ⟨⟨j, _, by omega, rfl, hstep, hJ3, hk3.1.trans hkb.1, hk3.2.trans hkb.2⟩, rfl⟩)
              case measure => first | (simp [intOf]; done) | (simp [intOf]; omega)
            · gi_wp2
              refine bodyPost_ret (results_none rfl _ _ _) rfl ?_
              exact ⟨⟨_, rfl⟩, .inr ⟨_, trivial, hJx3⟩⟩
    · obtain rfl : k = 0 := by omega
      gi_wp2
      clear hx
      obtain ⟨wo, rfl⟩ : ∃ wo : World, wo = wr := ⟨_, rfl⟩
      gi_loopw [3] (fun i wr => ∃ (j : Nat) (pre : List PB), j ≤ 0 ∧ i = .int .i64 ((j : Int) - 1) ∧ Hid (down x 0 = pre ++ down x j) ∧ J pre wr ∧ KB A Bs wo wr)
        (fun i _ => (intOf i + 1).toNat)
      case atStart => exact ⟨0, [], Nat.le_refl _, by go_num, rfl, h0, rfl, rfl⟩
      case round =>
        obtain ⟨j, pre, hj, rfl, hpre, hJp, hkb⟩ := hrel
        have hBs2 : wr.cell? ⟨Bs, 0, none⟩ = some (.slice (some ⟨A, 0, none⟩) L L) := (World.cell?_of_block (w := wo) hkb.2).trans hBs
        cases j with
        | zero =>
          gi_wp2
          go_end0
          exact ⟨⟨_, rfl⟩, .inl ⟨_, ⟨0, by omega, hxk.out, rfl⟩, by rw [hpre.out]; simpa [down] using hJp⟩⟩
        | succ j =>
          have hj64 : j / 64 < L := by omega
          have hcj : wr.cell? ⟨A, j / 64, none⟩ = some (.int .u64 (lb x (j / 64) : Nat)) := (World.cell?_of_block (w := wo) hkb.1).trans (hc (j / 64) hj64)
          have hbj := bit_and x j
          have hlen : pre.length < 64 * L := by
            have h1 := congrArg List.length hpre.out
            simp only [down, List.length_append, List.length_cons, down_length] at h1
            omega
          have hstep : Hid (down x 0 = (pre ++ [⟨(j, bitOf x j), by omega, bitOf_le _ _⟩]) ++ down x j) := by
            show _ = _
            rw [hpre.out, down, List.append_assoc]
            congr 2
            exact Subtype.ext (by simp; omega)
          have e1 : ((j + 1 : Nat) : Int) - 1 = (j : Int) := by omega
          rw [e1]
          obtain ⟨fn, tmps, assign, body, hy, hR⟩ := hY pre ⟨(j, bitOf x j), by omega, bitOf_le _ _⟩ wr hJp hlen
          dsimp only at hy
          clear hpre hY hlen hbj
          have hbj := bit_and x j
          gi_wp2
          refine hR.mono ?_
          rintro e W3 (⟨rfl, hJ3, hk3⟩ | ⟨rfl, hJx3⟩)
          · gi_wp2
            go_roundw
            case rel =>
              first | exact ⟨j, _, by omega, rfl, hstep, hJ3, hk3.1.trans hkb.1, hk3.2.trans hkb.2⟩ | ((repeat apply Exists.intro); exact ⟨⟨j, _, by omega, rfl, hstep, hJ3, hk3.1.trans hkb.1, hk3.2.trans hkb.2⟩, rfl⟩)
            case measure => first | (simp [intOf]; done) | (simp [intOf]; omega)
          · gi_wp2
            refine bodyPost_ret (results_none rfl _ _ _) rfl ?_
            exact ⟨⟨_, rfl⟩, .inr ⟨_, trivial, hJx3⟩⟩

/-- The value that ones hands back is an iterator over the bits of x. -/
theorem ones_stops (n L : Nat) (hL : 1 ≤ L) (hL8 : L ≤ 8) (hn : 1 ≤ n) (Bs A x : Nat) (hx : x < 2 ^ (64 * L)) (w : World) (hBw : Bs < w.heap.size) (hAw : A < w.heap.size)
    (hBs : w.cell? ⟨Bs, 0, none⟩ = some (.slice (some ⟨A, 0, none⟩) L L)) (hc : ∀ j, j < L → w.cell? ⟨A, j, none⟩ = some (.int .u64 (lb x j : Nat))) :
    SeqStopsK (FW none) n Try.prog 79 #[.pointer (some ⟨Bs, 0, none⟩)] (fun p : PB => #[.int .i64 (p.val.1 : Nat), .int .u64 (p.val.2 : Nat)]) (KB A Bs)
      (fun ys => ∃ N, N ≤ 64 * L ∧ x < 2 ^ N ∧ ys = down x N) (fun _ => True) (64 * L) w := fun l J Jx W hW _ _ hY h0 =>
  ones1_in n L hL hL8 hn l Bs A x hx J Jx hY W ((hW.cell (p := ⟨Bs, 0, none⟩) hBw).trans hBs) (fun j hj => (hW.cell (p := ⟨A, j, none⟩) hAw).trans (hc j hj)) h0

set_option maxHeartbeats 400000 in
/-- ones. -/
theorem ones_any (v : Value) (a : Option Addr) (len cap : Nat) (hv : v = .slice a len cap) (w : World) :
    Calls Try.prog 71 #[v] w fun e w' => e = .returned (.func (.func 79) #[] #[.pointer (some ⟨w.heap.size, 0, none⟩)]) ∧ w' = w.alloc (.cells #[v] 41) := by
  subst hv
  go_enter Try.func71, Try.ntmps71
  go_wp2
  go_ret
  exact ⟨rfl, rfl⟩

end Go.Proofs.Ytmegpggpndjjcaa
