/-
  Code behind code changes nothing ahead: pharoslaw17.CodeBoth returns true. Conditions: what it reads is of bulk at most 1048576.
-/
import Derived.Test.YtjdhkdmcglnihaaCBoth
import Derived.Test.YtjdhkdmcglnihaaOpen
import Derived.JoinedCond
namespace Go.Proofs.Ytjdhkdmcglnihaa.CodeBothDone
open Go.ChangeShapes Go.WideShapes Go.ChangeAt Go.RowKit Go.Proofs.Ytjdhkdmcglnihaa
open Go.ChangeMaps (open_string shut_string)
attribute [local go_sem] leftBy
set_option linter.unusedSimpArgs false
set_option linter.unusedVariables false


theorem jumps_le (s : ByteArray) : (jumpsN s).length ≤ s.size := Nat.le_trans (jmp_length _ _) (opsN_length s s.size 0)

set_option maxRecDepth 100000 in
set_option maxHeartbeats 8000000 in
theorem walk (a b : ByteArray) (ha : a.size ≤ 1048576) (hb : b.size ≤ 1048576) (w : World) :
    Calls Try.prog 5 #[.string a, .string b] w fun e w' => e = .returned (.bool true) ∧ Below w.heap.size w w' := by
  have hz : (⟨#[0]⟩ : ByteArray).size = 1 := rfl
  have hs1 : (a ++ (⟨#[0]⟩ : ByteArray)).size = a.size + 1 := ByteArray.size_append
  have hs2 : (a ++ (⟨#[0]⟩ : ByteArray) ++ b).size = a.size + 1 + b.size := by rw [ByteArray.size_append, hs1]
  have q1 : ¬ 9223372036854775807 < a.size + (⟨#[0]⟩ : ByteArray).size := by rw [hz]; omega
  have q2 : ¬ 9223372036854775807 < (a ++ (⟨#[0]⟩ : ByteArray)).size + b.size := by rw [hs1]; omega
  obtain ⟨r, hr⟩ := jumps_both a ((⟨#[0]⟩ : ByteArray) ++ b)
  rw [← ByteArray.append_assoc] at hr
  have c1 := fun W => Jumps_any a (by omega) W
  have c2 := fun W => Jumps_any (a ++ (⟨#[0]⟩ : ByteArray) ++ b) (by omega) W
  have c3 := fun k h hx W => At_jump (a ++ (⟨#[0]⟩ : ByteArray) ++ b) k h hx (by omega) W
  have l1 := jumps_le a
  have l2 := jumps_le (a ++ (⟨#[0]⟩ : ByteArray) ++ b)
  have j1 := fun k x h => jumps_at (a ++ (⟨#[0]⟩ : ByteArray) ++ b) (k := k) (x := x) h
  have j2 := fun k x y h h2 => jumps_sorted (a ++ (⟨#[0]⟩ : ByteArray) ++ b) (k := k) (x := x) (y := y) h h2
  unfold JumpsR at c1 c2
  generalize jumpsN (a ++ (⟨#[0]⟩ : ByteArray) ++ b) = M at *
  generalize jumpsN a = L at *
  go_enter Try.func5, Try.ntmps5
  go_wp2_with (first | (go_at_call 8; (with_reducible refine (shown_any _).mono ?_); rintro e wa ⟨rfl, hb_wa⟩; have hza := hb_wa.size) | (go_at_call 12; (with_reducible refine (c1 _).mono ?_); rintro e wb ⟨v, rfl, hrow, hb_wb⟩; have hl1 := isL_of hrow; have hzb := hb_wb.size; clear hrow))
  refine (c2 _).mono ?_
  rintro e wc ⟨u, rfl, hrow, hb_wc⟩
  have hl2 := isL_of hrow
  have hl3 := hl1.below hb_wc (Nat.le_refl _)
  have hzc := hb_wc.size
  clear hrow c1 c2 hl1
  rcases hl2 with ⟨rfl, rfl⟩ | ⟨g, cap, rfl, hg, hn, hm, hcell⟩
  · obtain rfl : L = [] := by cases L with | nil => rfl | cons x l => cases hr
    have hv : ∃ a c, v = .slice a 0 c := by
      rcases hl3 with ⟨rfl, _⟩ | ⟨g, cap, rfl, _⟩
      · exact ⟨_, _, rfl⟩
      · exact ⟨_, _, rfl⟩
    obtain ⟨va, vc, rfl⟩ := hv
    clear hl3 hr j1 j2 c3 hs1 hs2 hz l1 l2
    go_wp2
    go_loopw [8] (fun i wr => i = .int .i64 0 ∧ wr = wc) (fun _ _ => 0)
    case atStart => exact ⟨by go_num, rfl⟩
    case round =>
      obtain ⟨rfl, rfl⟩ := hrel
      go_wp2_with (go_at_call 11; (with_reducible refine (Same_none _ _ _ _ _).mono ?_); rintro e wd ⟨rfl, hb_wd⟩)
      refine bodyPost_ret (by simp only [results, Try.results5]; go_simp; try rfl) rfl ⟨rfl, ?_⟩
      repeat (with_reducible first | exact Below.refl _ _ | assumption | refine below_drewN ?_ _ | refine Below.drew ?_ | refine Below.setCell ?_ (by first | omega | (simp; done) | (simp; omega)) _ | refine Below.alloc ?_ (by first | omega | (simp; done) | (simp; omega)) _ | refine Below.trans ?_ (Below.mono (by assumption) (by first | omega | (simp; done) | (simp; omega))))
  · have hcap : M.length ≤ M.length := Nat.le_refl _
    generalize hN : M.length = N at *
    replace hN := Lib.hid hN
    have hcm : (9223372036854775807 : Nat) = maxLen := rfl
    have hLN : L.length ≤ N := by rw [← hN.out, hr]; simp
    have hl4 := hl3
    go_wp2
    go_loopw [8, 9, 10, 11] (fun i _ _ _ wr => ∃ k : Nat, k ≤ N ∧ i = .int .i64 k ∧ Below wc.heap.size wc wr)
      (fun i _ _ _ _ => N - (intOf i).toNat)
    case atStart => exact ⟨0, by omega, by go_num, Below.refl _ _⟩
    case round =>
      obtain ⟨k, hk, rfl, hbel⟩ := hrel
      have hzr := hbel.size
      by_cases hkn : k < N
      · have hki : (k : Int) < (N : Int) := by omega
        have hkc : k < cap := by omega
        obtain ⟨x, hx⟩ : ∃ x, M[k]? = some x := ⟨M[k]'(by have := hN.out; omega), List.getElem?_eq_getElem _⟩
        obtain ⟨hx1, hx2⟩ := j1 k x hx
        have c4 := c3 x hx1 hx2
        have hxs : x ≤ 2097153 := by omega
        have hks : k ≤ 2097153 := by omega
        have e1 : wr.cell? ⟨g, k, none⟩ = some (.int .i64 (x : Nat)) := (hbel.cell (p := ⟨g, k, none⟩) hg).trans (hcell k x hx)
        cases k with
        | zero =>
          clear j1 j2 c3 hcell hs1 hs2 hz l1 l2 hr hx hx1 hx2
          go_wp2_with (go_at_call 9; (with_reducible refine (c4 _).mono ?_); rintro e wd ⟨rfl, hb_wd⟩; have e2 : wd.cell? ⟨g, 0, none⟩ = some (.int .i64 (x : Nat)) := (hb_wd.cell (p := ⟨g, 0, none⟩) (Nat.lt_of_lt_of_le hg hzr)).trans e1; have hbel2 := hbel.trans (hb_wd.mono hzr))
          first | refine wp_flow (fun k => ([1, 1, 1, 1, 1, 1, 1, 1, 1, 1, 1, 1, 1, 1, 1, 1, 1, 1, 1, 1, 1, 1, 1, 1, 1, 1, 1] : List Nat).getD k 1) Dr _ (Dr.next _ _) (by kernel_rfl) (by kernel_rfl) ?_ | refine wp_flow (fun k => ([1, 1, 1, 1, 1, 1, 1, 1, 1, 1, 1, 1, 1, 1, 1, 1, 1, 1, 1, 1, 1, 1, 1, 1, 1, 1, 1] : List Nat).getD k 1) Dr _ (Dr.one _) (by kernel_rfl) (by kernel_rfl) ?_
          (refine flow_quiet rfl rfl (fun K hK => ?_); apply Exists.intro; apply And.intro; (focus (rintro w' ⟨nn, rfl⟩; go_simp; (try go_bits); exact ⟨rfl, Dr.of _ _⟩)); go_simp; (try go_bits); refine hK _ ?_; clear hK K)
          (refine flow_quiet rfl rfl (fun K hK => ?_); apply Exists.intro; apply And.intro; (focus (rintro w' ⟨nn, rfl⟩; go_simp; (try go_bits); exact ⟨rfl, Dr.of _ _⟩)); go_simp; (try go_bits); refine hK _ ?_; clear hK K)
          (refine flow_quiet rfl rfl (fun K hK => ?_); apply Exists.intro; apply And.intro; (focus (rintro w' ⟨nn, rfl⟩; go_simp; (try go_bits); exact ⟨rfl, Dr.of _ _⟩)); go_simp; (try go_bits); refine hK _ ?_; clear hK K)
          first | (refine flow_skip rfl (fun K hK => ?_); go_simp; (try go_bits); refine hK _ ?_; clear hK K) | (refine flow_quiet rfl rfl (fun K hK => ?_); apply Exists.intro; apply And.intro; (focus (rintro w' ⟨nn, rfl⟩; go_simp; (try go_bits); exact ⟨rfl, Dr.of _ _⟩)); go_simp; (try go_bits); refine hK _ ?_; clear hK K)
          first | (refine flow_skip rfl (fun K hK => ?_); go_simp; (try go_bits); refine hK _ ?_; clear hK K) | (refine flow_quiet rfl rfl (fun K hK => ?_); apply Exists.intro; apply And.intro; (focus (rintro w' ⟨nn, rfl⟩; go_simp; (try go_bits); exact ⟨rfl, Dr.of _ _⟩)); go_simp; (try go_bits); refine hK _ ?_; clear hK K)
          first | (refine flow_skip rfl (fun K hK => ?_); go_simp; (try go_bits); refine hK _ ?_; clear hK K) | (refine flow_quiet rfl rfl (fun K hK => ?_); apply Exists.intro; apply And.intro; (focus (rintro w' ⟨nn, rfl⟩; go_simp; (try go_bits); exact ⟨rfl, Dr.of _ _⟩)); go_simp; (try go_bits); refine hK _ ?_; clear hK K)
          first | (refine flow_skip rfl (fun K hK => ?_); go_simp; (try go_bits); refine hK _ ?_; clear hK K) | (refine flow_quiet rfl rfl (fun K hK => ?_); apply Exists.intro; apply And.intro; (focus (rintro w' ⟨nn, rfl⟩; go_simp; (try go_bits); exact ⟨rfl, Dr.of _ _⟩)); go_simp; (try go_bits); refine hK _ ?_; clear hK K)
          first | (refine flow_skip rfl (fun K hK => ?_); go_simp; (try go_bits); refine hK _ ?_; clear hK K) | (refine flow_quiet rfl rfl (fun K hK => ?_); apply Exists.intro; apply And.intro; (focus (rintro w' ⟨nn, rfl⟩; go_simp; (try go_bits); exact ⟨rfl, Dr.of _ _⟩)); go_simp; (try go_bits); refine hK _ ?_; clear hK K)
          first | (refine flow_skip rfl (fun K hK => ?_); go_simp; (try go_bits); refine hK _ ?_; clear hK K) | (refine flow_quiet rfl rfl (fun K hK => ?_); apply Exists.intro; apply And.intro; (focus (rintro w' ⟨nn, rfl⟩; go_simp; (try go_bits); exact ⟨rfl, Dr.of _ _⟩)); go_simp; (try go_bits); refine hK _ ?_; clear hK K)
          first | (refine flow_skip rfl (fun K hK => ?_); go_simp; (try go_bits); refine hK _ ?_; clear hK K) | (refine flow_quiet rfl rfl (fun K hK => ?_); apply Exists.intro; apply And.intro; (focus (rintro w' ⟨nn, rfl⟩; go_simp; (try go_bits); exact ⟨rfl, Dr.of _ _⟩)); go_simp; (try go_bits); refine hK _ ?_; clear hK K)
          (refine flow_quiet rfl rfl (fun K hK => ?_); apply Exists.intro; apply And.intro; (focus (rintro w' ⟨nn, rfl⟩; go_simp; (try go_bits); exact ⟨rfl, Dr.of _ _⟩)); go_simp; (try go_bits); refine hK _ ?_; clear hK K)
          (refine flow_quiet rfl rfl (fun K hK => ?_); apply Exists.intro; apply And.intro; (focus (rintro w' ⟨nn, rfl⟩; go_simp; (try go_bits); exact ⟨rfl, Dr.of _ _⟩)); go_simp; (try go_bits); refine hK _ ?_; clear hK K)
          first | (refine flow_skip rfl (fun K hK => ?_); go_simp; (try go_bits); refine hK _ ?_; clear hK K) | (refine flow_quiet rfl rfl (fun K hK => ?_); apply Exists.intro; apply And.intro; (focus (rintro w' ⟨nn, rfl⟩; go_simp; (try go_bits); exact ⟨rfl, Dr.of _ _⟩)); go_simp; (try go_bits); refine hK _ ?_; clear hK K)
          first | (refine flow_skip rfl (fun K hK => ?_); go_simp; (try go_bits); refine hK _ ?_; clear hK K) | (refine flow_quiet rfl rfl (fun K hK => ?_); apply Exists.intro; apply And.intro; (focus (rintro w' ⟨nn, rfl⟩; go_simp; (try go_bits); exact ⟨rfl, Dr.of _ _⟩)); go_simp; (try go_bits); refine hK _ ?_; clear hK K)
          first | (refine flow_skip rfl (fun K hK => ?_); go_simp; (try go_bits); refine hK _ ?_; clear hK K) | (refine flow_quiet rfl rfl (fun K hK => ?_); apply Exists.intro; apply And.intro; (focus (rintro w' ⟨nn, rfl⟩; go_simp; (try go_bits); exact ⟨rfl, Dr.of _ _⟩)); go_simp; (try go_bits); refine hK _ ?_; clear hK K)
          first | (refine flow_skip rfl (fun K hK => ?_); go_simp; (try go_bits); refine hK _ ?_; clear hK K) | (refine flow_quiet rfl rfl (fun K hK => ?_); apply Exists.intro; apply And.intro; (focus (rintro w' ⟨nn, rfl⟩; go_simp; (try go_bits); exact ⟨rfl, Dr.of _ _⟩)); go_simp; (try go_bits); refine hK _ ?_; clear hK K)
          first | (refine flow_skip rfl (fun K hK => ?_); go_simp; (try go_bits); refine hK _ ?_; clear hK K) | (refine flow_quiet rfl rfl (fun K hK => ?_); apply Exists.intro; apply And.intro; (focus (rintro w' ⟨nn, rfl⟩; go_simp; (try go_bits); exact ⟨rfl, Dr.of _ _⟩)); go_simp; (try go_bits); refine hK _ ?_; clear hK K)
          first | (refine flow_skip rfl (fun K hK => ?_); go_simp; (try go_bits); refine hK _ ?_; clear hK K) | (refine flow_quiet rfl rfl (fun K hK => ?_); apply Exists.intro; apply And.intro; (focus (rintro w' ⟨nn, rfl⟩; go_simp; (try go_bits); exact ⟨rfl, Dr.of _ _⟩)); go_simp; (try go_bits); refine hK _ ?_; clear hK K)
          first | (refine flow_skip rfl (fun K hK => ?_); go_simp; (try go_bits); refine hK _ ?_; clear hK K) | (refine flow_quiet rfl rfl (fun K hK => ?_); apply Exists.intro; apply And.intro; (focus (rintro w' ⟨nn, rfl⟩; go_simp; (try go_bits); exact ⟨rfl, Dr.of _ _⟩)); go_simp; (try go_bits); refine hK _ ?_; clear hK K)
          first | (refine flow_skip rfl (fun K hK => ?_); go_simp; (try go_bits); refine hK _ ?_; clear hK K) | (refine flow_quiet rfl rfl (fun K hK => ?_); apply Exists.intro; apply And.intro; (focus (rintro w' ⟨nn, rfl⟩; go_simp; (try go_bits); exact ⟨rfl, Dr.of _ _⟩)); go_simp; (try go_bits); refine hK _ ?_; clear hK K)
          first | (refine flow_skip rfl (fun K hK => ?_); go_simp; (try go_bits); refine hK _ ?_; clear hK K) | (refine flow_quiet rfl rfl (fun K hK => ?_); apply Exists.intro; apply And.intro; (focus (rintro w' ⟨nn, rfl⟩; go_simp; (try go_bits); exact ⟨rfl, Dr.of _ _⟩)); go_simp; (try go_bits); refine hK _ ?_; clear hK K)
          first | (refine flow_skip rfl (fun K hK => ?_); go_simp; (try go_bits); refine hK _ ?_; clear hK K) | (refine flow_quiet rfl rfl (fun K hK => ?_); apply Exists.intro; apply And.intro; (focus (rintro w' ⟨nn, rfl⟩; go_simp; (try go_bits); exact ⟨rfl, Dr.of _ _⟩)); go_simp; (try go_bits); refine hK _ ?_; clear hK K)
          first | (refine flow_skip rfl (fun K hK => ?_); go_simp; (try go_bits); refine hK _ ?_; clear hK K) | (refine flow_quiet rfl rfl (fun K hK => ?_); apply Exists.intro; apply And.intro; (focus (rintro w' ⟨nn, rfl⟩; go_simp; (try go_bits); exact ⟨rfl, Dr.of _ _⟩)); go_simp; (try go_bits); refine hK _ ?_; clear hK K)
          first | (refine flow_skip rfl (fun K hK => ?_); go_simp; (try go_bits); refine hK _ ?_; clear hK K) | (refine flow_quiet rfl rfl (fun K hK => ?_); apply Exists.intro; apply And.intro; (focus (rintro w' ⟨nn, rfl⟩; go_simp; (try go_bits); exact ⟨rfl, Dr.of _ _⟩)); go_simp; (try go_bits); refine hK _ ?_; clear hK K)
          first | (refine flow_skip rfl (fun K hK => ?_); go_simp; (try go_bits); refine hK _ ?_; clear hK K) | (refine flow_quiet rfl rfl (fun K hK => ?_); apply Exists.intro; apply And.intro; (focus (rintro w' ⟨nn, rfl⟩; go_simp; (try go_bits); exact ⟨rfl, Dr.of _ _⟩)); go_simp; (try go_bits); refine hK _ ?_; clear hK K)
          first | (refine flow_skip rfl (fun K hK => ?_); go_simp; (try go_bits); refine hK _ ?_; clear hK K) | (refine flow_quiet rfl rfl (fun K hK => ?_); apply Exists.intro; apply And.intro; (focus (rintro w' ⟨nn, rfl⟩; go_simp; (try go_bits); exact ⟨rfl, Dr.of _ _⟩)); go_simp; (try go_bits); refine hK _ ?_; clear hK K)
          (refine flow_quiet rfl rfl (fun K hK => ?_); apply Exists.intro; apply And.intro; (focus (rintro w' ⟨nn, rfl⟩; go_simp; (try go_bits); exact ⟨rfl, Dr.of _ _⟩)); go_simp; (try go_bits); refine hK _ ?_; clear hK K)
          refine flow_nil ?_
          rintro w' ⟨nq, rfl⟩
          go_wp2
          go_roundw
          case rel => exact ⟨1, by omega, by go_num, below_drewN hbel2 _⟩
          case measure => simp [intOf]; omega
        | succ k =>
          have hys : k ≤ 2097153 := by omega
          obtain ⟨y, hy⟩ : ∃ y, M[k]? = some y := ⟨M[k]'(by have := hN.out; omega), List.getElem?_eq_getElem _⟩
          have hyx := j2 k y x hy hx
          have hyi : ¬ (x : Int) ≤ (y : Int) := by omega
          have e3 : wr.cell? ⟨g, k, none⟩ = some (.int .i64 (y : Nat)) := (hbel.cell (p := ⟨g, k, none⟩) hg).trans (hcell k y hy)
          have hk1 : ((k + 1 : Nat) : Int) - 1 = (k : Int) := by omega
          have hk2 : (0 : Int) < ((k + 1 : Nat) : Int) := by omega
          have hki2 : (k : Int) < (N : Int) := by omega
          have hk3 : k < cap := by omega
          clear j1 j2 c3 hcell hs1 hs2 hz l1 l2 hr hx hx1 hx2 hy hyx
          go_wp2_with (go_at_call 9; (with_reducible refine (c4 _).mono ?_); rintro e wd ⟨rfl, hb_wd⟩; have e2 : wd.cell? ⟨g, k + 1, none⟩ = some (.int .i64 (x : Nat)) := (hb_wd.cell (p := ⟨g, k + 1, none⟩) (Nat.lt_of_lt_of_le hg hzr)).trans e1; have e4 : wd.cell? ⟨g, k, none⟩ = some (.int .i64 (y : Nat)) := (hb_wd.cell (p := ⟨g, k, none⟩) (Nat.lt_of_lt_of_le hg hzr)).trans e3; have hbel2 := hbel.trans (hb_wd.mono hzr))
          first | refine wp_flow (fun k => ([1, 1, 1, 1, 1, 1, 1, 1, 1, 1, 1, 1, 1, 1, 1, 1, 1, 1, 1, 1, 1, 1, 1, 1, 1, 1, 1] : List Nat).getD k 1) Dr _ (Dr.next _ _) (by kernel_rfl) (by kernel_rfl) ?_ | refine wp_flow (fun k => ([1, 1, 1, 1, 1, 1, 1, 1, 1, 1, 1, 1, 1, 1, 1, 1, 1, 1, 1, 1, 1, 1, 1, 1, 1, 1, 1] : List Nat).getD k 1) Dr _ (Dr.one _) (by kernel_rfl) (by kernel_rfl) ?_
          (refine flow_quiet rfl rfl (fun K hK => ?_); apply Exists.intro; apply And.intro; (focus (rintro w' ⟨nn, rfl⟩; go_simp; (try go_bits); exact ⟨rfl, Dr.of _ _⟩)); go_simp; (try go_bits); refine hK _ ?_; clear hK K)
          (refine flow_quiet rfl rfl (fun K hK => ?_); apply Exists.intro; apply And.intro; (focus (rintro w' ⟨nn, rfl⟩; go_simp; (try go_bits); exact ⟨rfl, Dr.of _ _⟩)); go_simp; (try go_bits); refine hK _ ?_; clear hK K)
          (refine flow_quiet rfl rfl (fun K hK => ?_); apply Exists.intro; apply And.intro; (focus (rintro w' ⟨nn, rfl⟩; go_simp; (try go_bits); exact ⟨rfl, Dr.of _ _⟩)); go_simp; (try go_bits); refine hK _ ?_; clear hK K)
          first | (refine flow_skip rfl (fun K hK => ?_); go_simp; (try go_bits); refine hK _ ?_; clear hK K) | (refine flow_quiet rfl rfl (fun K hK => ?_); apply Exists.intro; apply And.intro; (focus (rintro w' ⟨nn, rfl⟩; go_simp; (try go_bits); exact ⟨rfl, Dr.of _ _⟩)); go_simp; (try go_bits); refine hK _ ?_; clear hK K)
          first | (refine flow_skip rfl (fun K hK => ?_); go_simp; (try go_bits); refine hK _ ?_; clear hK K) | (refine flow_quiet rfl rfl (fun K hK => ?_); apply Exists.intro; apply And.intro; (focus (rintro w' ⟨nn, rfl⟩; go_simp; (try go_bits); exact ⟨rfl, Dr.of _ _⟩)); go_simp; (try go_bits); refine hK _ ?_; clear hK K)
          first | (refine flow_skip rfl (fun K hK => ?_); go_simp; (try go_bits); refine hK _ ?_; clear hK K) | (refine flow_quiet rfl rfl (fun K hK => ?_); apply Exists.intro; apply And.intro; (focus (rintro w' ⟨nn, rfl⟩; go_simp; (try go_bits); exact ⟨rfl, Dr.of _ _⟩)); go_simp; (try go_bits); refine hK _ ?_; clear hK K)
          first | (refine flow_skip rfl (fun K hK => ?_); go_simp; (try go_bits); refine hK _ ?_; clear hK K) | (refine flow_quiet rfl rfl (fun K hK => ?_); apply Exists.intro; apply And.intro; (focus (rintro w' ⟨nn, rfl⟩; go_simp; (try go_bits); exact ⟨rfl, Dr.of _ _⟩)); go_simp; (try go_bits); refine hK _ ?_; clear hK K)
          first | (refine flow_skip rfl (fun K hK => ?_); go_simp; (try go_bits); refine hK _ ?_; clear hK K) | (refine flow_quiet rfl rfl (fun K hK => ?_); apply Exists.intro; apply And.intro; (focus (rintro w' ⟨nn, rfl⟩; go_simp; (try go_bits); exact ⟨rfl, Dr.of _ _⟩)); go_simp; (try go_bits); refine hK _ ?_; clear hK K)
          first | (refine flow_skip rfl (fun K hK => ?_); go_simp; (try go_bits); refine hK _ ?_; clear hK K) | (refine flow_quiet rfl rfl (fun K hK => ?_); apply Exists.intro; apply And.intro; (focus (rintro w' ⟨nn, rfl⟩; go_simp; (try go_bits); exact ⟨rfl, Dr.of _ _⟩)); go_simp; (try go_bits); refine hK _ ?_; clear hK K)
          first | (refine flow_skip rfl (fun K hK => ?_); go_simp; (try go_bits); refine hK _ ?_; clear hK K) | (refine flow_quiet rfl rfl (fun K hK => ?_); apply Exists.intro; apply And.intro; (focus (rintro w' ⟨nn, rfl⟩; go_simp; (try go_bits); exact ⟨rfl, Dr.of _ _⟩)); go_simp; (try go_bits); refine hK _ ?_; clear hK K)
          (refine flow_quiet rfl rfl (fun K hK => ?_); apply Exists.intro; apply And.intro; (focus (rintro w' ⟨nn, rfl⟩; go_simp; (try go_bits); exact ⟨rfl, Dr.of _ _⟩)); go_simp; (try go_bits); refine hK _ ?_; clear hK K)
          (refine flow_quiet rfl rfl (fun K hK => ?_); apply Exists.intro; apply And.intro; (focus (rintro w' ⟨nn, rfl⟩; go_simp; (try go_bits); exact ⟨rfl, Dr.of _ _⟩)); go_simp; (try go_bits); refine hK _ ?_; clear hK K)
          first | (refine flow_skip rfl (fun K hK => ?_); go_simp; (try go_bits); refine hK _ ?_; clear hK K) | (refine flow_quiet rfl rfl (fun K hK => ?_); apply Exists.intro; apply And.intro; (focus (rintro w' ⟨nn, rfl⟩; go_simp; (try go_bits); exact ⟨rfl, Dr.of _ _⟩)); go_simp; (try go_bits); refine hK _ ?_; clear hK K)
          first | (refine flow_skip rfl (fun K hK => ?_); go_simp; (try go_bits); refine hK _ ?_; clear hK K) | (refine flow_quiet rfl rfl (fun K hK => ?_); apply Exists.intro; apply And.intro; (focus (rintro w' ⟨nn, rfl⟩; go_simp; (try go_bits); exact ⟨rfl, Dr.of _ _⟩)); go_simp; (try go_bits); refine hK _ ?_; clear hK K)
          first | (refine flow_skip rfl (fun K hK => ?_); go_simp; (try go_bits); refine hK _ ?_; clear hK K) | (refine flow_quiet rfl rfl (fun K hK => ?_); apply Exists.intro; apply And.intro; (focus (rintro w' ⟨nn, rfl⟩; go_simp; (try go_bits); exact ⟨rfl, Dr.of _ _⟩)); go_simp; (try go_bits); refine hK _ ?_; clear hK K)
          first | (refine flow_skip rfl (fun K hK => ?_); go_simp; (try go_bits); refine hK _ ?_; clear hK K) | (refine flow_quiet rfl rfl (fun K hK => ?_); apply Exists.intro; apply And.intro; (focus (rintro w' ⟨nn, rfl⟩; go_simp; (try go_bits); exact ⟨rfl, Dr.of _ _⟩)); go_simp; (try go_bits); refine hK _ ?_; clear hK K)
          first | (refine flow_skip rfl (fun K hK => ?_); go_simp; (try go_bits); refine hK _ ?_; clear hK K) | (refine flow_quiet rfl rfl (fun K hK => ?_); apply Exists.intro; apply And.intro; (focus (rintro w' ⟨nn, rfl⟩; go_simp; (try go_bits); exact ⟨rfl, Dr.of _ _⟩)); go_simp; (try go_bits); refine hK _ ?_; clear hK K)
          first | (refine flow_skip rfl (fun K hK => ?_); go_simp; (try go_bits); refine hK _ ?_; clear hK K) | (refine flow_quiet rfl rfl (fun K hK => ?_); apply Exists.intro; apply And.intro; (focus (rintro w' ⟨nn, rfl⟩; go_simp; (try go_bits); exact ⟨rfl, Dr.of _ _⟩)); go_simp; (try go_bits); refine hK _ ?_; clear hK K)
          first | (refine flow_skip rfl (fun K hK => ?_); go_simp; (try go_bits); refine hK _ ?_; clear hK K) | (refine flow_quiet rfl rfl (fun K hK => ?_); apply Exists.intro; apply And.intro; (focus (rintro w' ⟨nn, rfl⟩; go_simp; (try go_bits); exact ⟨rfl, Dr.of _ _⟩)); go_simp; (try go_bits); refine hK _ ?_; clear hK K)
          first | (refine flow_skip rfl (fun K hK => ?_); go_simp; (try go_bits); refine hK _ ?_; clear hK K) | (refine flow_quiet rfl rfl (fun K hK => ?_); apply Exists.intro; apply And.intro; (focus (rintro w' ⟨nn, rfl⟩; go_simp; (try go_bits); exact ⟨rfl, Dr.of _ _⟩)); go_simp; (try go_bits); refine hK _ ?_; clear hK K)
          first | (refine flow_skip rfl (fun K hK => ?_); go_simp; (try go_bits); refine hK _ ?_; clear hK K) | (refine flow_quiet rfl rfl (fun K hK => ?_); apply Exists.intro; apply And.intro; (focus (rintro w' ⟨nn, rfl⟩; go_simp; (try go_bits); exact ⟨rfl, Dr.of _ _⟩)); go_simp; (try go_bits); refine hK _ ?_; clear hK K)
          first | (refine flow_skip rfl (fun K hK => ?_); go_simp; (try go_bits); refine hK _ ?_; clear hK K) | (refine flow_quiet rfl rfl (fun K hK => ?_); apply Exists.intro; apply And.intro; (focus (rintro w' ⟨nn, rfl⟩; go_simp; (try go_bits); exact ⟨rfl, Dr.of _ _⟩)); go_simp; (try go_bits); refine hK _ ?_; clear hK K)
          first | (refine flow_skip rfl (fun K hK => ?_); go_simp; (try go_bits); refine hK _ ?_; clear hK K) | (refine flow_quiet rfl rfl (fun K hK => ?_); apply Exists.intro; apply And.intro; (focus (rintro w' ⟨nn, rfl⟩; go_simp; (try go_bits); exact ⟨rfl, Dr.of _ _⟩)); go_simp; (try go_bits); refine hK _ ?_; clear hK K)
          first | (refine flow_skip rfl (fun K hK => ?_); go_simp; (try go_bits); refine hK _ ?_; clear hK K) | (refine flow_quiet rfl rfl (fun K hK => ?_); apply Exists.intro; apply And.intro; (focus (rintro w' ⟨nn, rfl⟩; go_simp; (try go_bits); exact ⟨rfl, Dr.of _ _⟩)); go_simp; (try go_bits); refine hK _ ?_; clear hK K)
          first | (refine flow_skip rfl (fun K hK => ?_); go_simp; (try go_bits); refine hK _ ?_; clear hK K) | (refine flow_quiet rfl rfl (fun K hK => ?_); apply Exists.intro; apply And.intro; (focus (rintro w' ⟨nn, rfl⟩; go_simp; (try go_bits); exact ⟨rfl, Dr.of _ _⟩)); go_simp; (try go_bits); refine hK _ ?_; clear hK K)
          first | (refine flow_skip rfl (fun K hK => ?_); go_simp; (try go_bits); refine hK _ ?_; clear hK K) | (refine flow_quiet rfl rfl (fun K hK => ?_); apply Exists.intro; apply And.intro; (focus (rintro w' ⟨nn, rfl⟩; go_simp; (try go_bits); exact ⟨rfl, Dr.of _ _⟩)); go_simp; (try go_bits); refine hK _ ?_; clear hK K)
          (refine flow_quiet rfl rfl (fun K hK => ?_); apply Exists.intro; apply And.intro; (focus (rintro w' ⟨nn, rfl⟩; go_simp; (try go_bits); exact ⟨rfl, Dr.of _ _⟩)); go_simp; (try go_bits); refine hK _ ?_; clear hK K)
          refine flow_nil ?_
          rintro w' ⟨nq, rfl⟩
          go_wp2
          go_roundw
          case rel => exact ⟨k + 2, by omega, by go_num, below_drewN hbel2 _⟩
          case measure => simp [intOf]; omega
      · have hki : ¬ (k : Int) < (N : Int) := by omega
        have hrr := hr
        have hA : isL wr (.slice (some ⟨g, 0, none⟩) L.length cap) L := by
          subst hrr
          refine isL_take (r := r) (Nat.lt_of_lt_of_le hg hzr) (by rw [hN.out]; exact hn) hm fun j x hx => ?_
          exact (hbel.cell (p := ⟨g, j, none⟩) hg).trans (hcell j x hx)
        have hB := hl3.below hbel (Nat.le_refl _)
        have hLi : (L.length : Int) ≤ (N : Int) := by omega
        have hLc : (L.length : Int) ≤ (cap : Int) := by omega
        have hLm : L.length ≤ 4194304 := by omega
        have hNi : ¬ (N : Int) < (L.length : Int) := by omega
        clear j1 j2 c3 hcell hs1 hs2 hz l1 l2 hr hrr hl3 hl4
        have hB2 := hB
        rcases hB2 with ⟨rfl, rfl⟩ | ⟨g', cap', rfl, hg', hn', hm', hc'⟩
        · have hA0 : isL wr (.slice (some ⟨g, 0, none⟩) 0 cap) [] := hA
          go_wp2_with (go_at_call 11; (with_reducible refine (Same_any hLm hA0 hB).mono ?_); rintro e wd ⟨rfl, hb_wd⟩; have hbel2 := hbel.trans (hb_wd.mono hzr))
          refine bodyPost_ret (by simp only [results, Try.results5]; go_simp; try rfl) rfl ⟨rfl, ?_⟩
          repeat (with_reducible first | exact Below.refl _ _ | assumption | refine below_drewN ?_ _ | refine Below.drew ?_ | refine Below.setCell ?_ (by first | omega | (simp; done) | (simp; omega)) _ | refine Below.alloc ?_ (by first | omega | (simp; done) | (simp; omega)) _ | refine Below.trans ?_ (Below.mono (by assumption) (by first | omega | (simp; done) | (simp; omega))))
        · clear hc'
          generalize hLn : L.length = n at *
          replace hLn := Lib.hid hLn
          go_wp2_with (go_at_call 11; (with_reducible refine (Same_any (by first | (rw [hLn.out]; exact hLm)) hA hB).mono ?_); rintro e wd ⟨rfl, hb_wd⟩; have hbel2 := hbel.trans (hb_wd.mono hzr))
          refine bodyPost_ret (by simp only [results, Try.results5]; go_simp; try rfl) rfl ⟨rfl, ?_⟩
          repeat (with_reducible first | exact Below.refl _ _ | assumption | refine below_drewN ?_ _ | refine Below.drew ?_ | refine Below.setCell ?_ (by first | omega | (simp; done) | (simp; omega)) _ | refine Below.alloc ?_ (by first | omega | (simp; done) | (simp; omega)) _ | refine Below.trans ?_ (Below.mono (by assumption) (by first | omega | (simp; done) | (simp; omega))))

set_option maxRecDepth 100000 in
theorem lifted (os : Os) (started : os.Started) (H : Type) (enc : TypeId × Value → H) (F : Stop.Interp) :
    ReturnsInHanded {} Try.checked os 5 .any ((Rows.OpenSpec.upto Rows.codeBothSpec).pre6 enc Try.prog Try.f5 Rows.codeBothUptoRow.domain false) (((Rows.OpenSpec.upto Rows.codeBothSpec).at F).post enc Try.prog Try.f5 false true false false) := by
  refine returnsInHanded_of_cond (C := Try.checked) (s := Rows.OpenSpec.upto Rows.codeBothSpec) (k := Rows.uptoSmall) rfl own started (by kernel_rfl) Try.func5
    (OpenSpec.witness (enc := enc) (C := Try.checked) (s := Rows.OpenSpec.upto Rows.codeBothSpec) (k := Rows.uptoSmall) rfl false ⟨#[], #[.string ⟨#[]⟩, .string ⟨#[]⟩], []⟩ 8 (by kernel_rfl) (by kernel_rfl) (by kernel_rfl) (x := ([.lit (.string []), .lit (.string [])], [], [])) (by kernel_rfl) rfl (by kernel_rfl)) ?_
  intro W base args ds gs before hval0 hW _ hk _
  have hval : ∀ (j : Nat) t v, Try.f5.params[j]? = some t → args[j]? = some v → Value.okWide Try.prog W .any base t v := hval0
  have hW' := hW
  obtain ⟨p, q, hA0, hV, rfl, hfz, hnd⟩ := hW
  have hA : DataW.TrodAll enc Try.prog W 0 (fun _ => true) true Try.f5.params.toList args.toList ds p := hA0
  rw [Try.params5] at hA hval
  obtain ⟨v0, vs0, d0, ds0, p0, q0, hargs, rfl, rfl, h0, r0⟩ := trodAll_cons hA
  obtain ⟨v1, vs1, d1, ds1, p1, q1, rfl, rfl, rfl, h1, r1⟩ := trodAll_cons r0
  obtain ⟨rfl, rfl, rfl⟩ := trodAll_nil r1
  obtain rfl : args = #[v0, v1] := by cases args; simp_all
  obtain ⟨rfl, rfl⟩ := trodVars_none hV
  have k0 := h0
  have lt0 : ∀ x ∈ p0, x.block < W.heap.size := by obtain ⟨m, hm⟩ := k0; exact DataW.trod_lt m _ _ _ hm
  obtain ⟨a0, rfl, hd0, _, w0⟩ := open_string Try.underlying9 (hval 0 9 v0 rfl rfl) h0
  have k1 := h1
  have lt1 : ∀ x ∈ p1, x.block < W.heap.size := by obtain ⟨m, hm⟩ := k1; exact DataW.trod_lt m _ _ _ hm
  obtain ⟨a1, rfl, hd1, _, w1⟩ := open_string Try.underlying9 (hval 1 9 v1 rfl rfl) h1
  clear hA0 hval0
  have hk2 : Rows.uptoBulkAll ([d0, d1] ++ []) ≤ 1048576 := of_decide_eq_true hk
  rw [hd0, hd1] at hk2
  simp only [List.cons_append, List.nil_append, List.append_nil, Rows.uptoBulkAll, Rows.uptoBulk] at hk2
  have e0 : a0.data.toList.length = a0.size := by rw [Array.length_toList]; rfl
  have e1 : a1.data.toList.length = a1.size := by rw [Array.length_toList]; rfl
  have u0 : a0.size ≤ 1048576 := by omega
  have u1 : a1.size ≤ 1048576 := by omega
  refine (walk a0 a1 u0 u1 W).mono fun e W' ⟨he, bel⟩ => ?_
  subst he
  exact ⟨_, rfl, _, _, _, [], _, [], hW', trodAll_mk1 (shut_bool Try.underlying4 _), (trodAll_cons_mk (Below.trod laidOut (by kernel_rfl) (of_decide_eq_true (by kernel_rfl)) k0 bel lt0) (trodAll_cons_mk (Below.trod laidOut (by kernel_rfl) (of_decide_eq_true (by kernel_rfl)) k1 bel lt1) trodAll_mk0)), rfl, bel.frame _, fun h => by cases h⟩

theorem over : Rows.codeBothUptoRow.holds Try.pinned (Rows.OpenSpec.upto Rows.codeBothSpec) :=
  OpenClaim.holds_of_cond 5 Try.f5 rfl rfl rfl rfl rfl rfl rfl ⟨rfl, rfl, rfl, rfl, rfl⟩ rfl rfl rfl rfl rfl (by kernel_rfl) Try.func5 (by kernel_rfl)
    (of_decide_eq_true (by kernel_rfl)) (by unfold Func.isWrapper; first | (rw [if_pos (by decide +kernel)]; kernel_rfl) | (rw [if_neg (by decide +kernel)]; exact ⟨rfl, rfl⟩))
    (fun os started H enc _ F => lifted os started H enc F)

theorem proved : Rows.CodeBothUptoSaid := over
end Go.Proofs.Ytjdhkdmcglnihaa.CodeBothDone
