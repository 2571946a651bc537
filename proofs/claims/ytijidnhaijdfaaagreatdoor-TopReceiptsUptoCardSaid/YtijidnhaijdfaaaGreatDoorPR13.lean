/-
  The head of bytes: cut. Conditions: a thing's bytes stand at the head.
-/
import Derived.Test.YtijidnhaijdfaaaGreatDoorPR11
import Derived.Test.YtijidnhaijdfaaaGreatDoorPR3
import Derived.Test.YtijidnhaijdfaaaGreatDoorPR4
import Derived.Test.YtijidnhaijdfaaaGreatDoorPR12
namespace Go.Proofs.YtijidnhaijdfaaaGreatDoor
open Go.RowKit
attribute [local go_sem] leftBy leaves
set_option linter.unusedSimpArgs false
set_option linter.unusedVariables false

theorem ext_bs (p q r : Bs) : (bsS (p ++ (q ++ r))).extract p.length (p.length + q.length) = bsS q := by
  apply ba_ext
  simp [bsS, ByteArray.data_extract, List.extract_eq_take_drop, List.drop_append, List.take_append]
theorem ext_one (b : UInt8) (r : Bs) : (bsS (b :: r)).extract 0 1 = bsS [b] := ext_bs [] [b] r
theorem ext_tail (b : UInt8) (r : Bs) : (bsS (b :: r)).extract 1 (r.length + 1) = bsS r := by
  have := ext_bs [b] r []
  rw [List.append_nil] at this
  rw [show r.length + 1 = 1 + r.length by omega]
  exact this
theorem ext_head (p r : Bs) : (bsS (p ++ r)).extract 0 p.length = bsS p := by
  have := ext_bs [] p r
  simpa using this
theorem ext_rest (p r : Bs) : (bsS (p ++ r)).extract p.length (p.length + r.length) = bsS r := by
  have := ext_bs p r []
  rw [List.append_nil] at this
  exact this

theorem bsS_list (s : Bs) : (bsS s).toList = s := by
  rw [ByteArray.toList_eq]
  simp [bsS]
theorem bsS_get0 (b : UInt8) (r : Bs) (h : 0 < (bsS (b :: r)).size) : (bsS (b :: r))[0]'h = b := rfl

set_option maxRecDepth 100000 in
set_option maxHeartbeats 8000000 in
theorem cutS_byte (S A B : ByteArray) (m c : Nat) (hm : m ≤ 1000000) (hz : S.size = m + 1) (h0 : S.toList.isEmpty = false) (hS : 0 < S.size) (hx : (((S[0]'hS).toNat : Nat) : Int) = (c : Int)) (hc : c < 128) (e1 : S.extract 0 1 = A) (e2 : S.extract 1 (m + 1) = B) (W : World) :
    Calls Tryz.prog 90 #[.string S] W fun e w' => e = .returned (.tuple #[.string A, .bool false, .string B, .bool true]) ∧ Below W.heap.size W w' := by
  have hci : (c : Int) < 128 := by omega
  have hm1 : (1 : Int) ≤ (m : Int) + 1 := by omega
  go_enter Tryz.func90, Tryz.ntmps90
  go_wp2
  first | refine wp_flow (fun k => ([1, 1, 1, 1, 1, 1, 1, 1] : List Nat).getD k 1) Dr _ (Dr.next _ _) (by kernel_rfl) (by kernel_rfl) ?_ | refine wp_flow (fun k => ([1, 1, 1, 1, 1, 1, 1, 1] : List Nat).getD k 1) Dr _ (Dr.one _) (by kernel_rfl) (by kernel_rfl) ?_
  iterate 8 ((refine flow_quiet rfl rfl (fun K hK => ?_); apply Exists.intro; apply And.intro; (focus (rintro w' ⟨nn, rfl⟩; go_simp; (try go_bits); exact ⟨rfl, Dr.of _ _⟩)); go_simp; (try go_bits); refine hK _ ?_; clear hK K))
  refine flow_nil ?_
  rintro w' ⟨nq, rfl⟩
  go_wp2
  refine bodyPost_ret (by simp only [results, Tryz.results90]; go_simp; try rfl) rfl ⟨rfl, below_drewN (Below.refl _ _) _⟩

set_option maxRecDepth 100000 in
set_option maxHeartbeats 8000000 in
theorem cutS_short (S B A C : ByteArray) (m c n : Nat) (L : Bool) (hm : m ≤ 1000000) (hz : S.size = m + 1) (h0 : S.toList.isEmpty = false) (hS : 0 < S.size) (hx : (((S[0]'hS).toNat : Nat) : Int) = (c : Int)) (hc : 128 ≤ c) (hc2 : c < 256) (hL : decide ((192 : Int) ≤ (c : Int)) = L) (hn : (c - 128) % 64 = n) (hn55 : n ≤ 55) (hnm : n ≤ m)
    (e1 : S.extract 1 (m + 1) = B) (hB : B.size = m) (e2 : B.extract 0 n = A) (e3 : B.extract n m = C) (hA : A.size = n) (hone : L = false → n = 1 → ∃ h : 0 < A.size, 128 ≤ (A[0]'h).toNat) (W : World) :
    Calls Tryz.prog 90 #[.string S] W fun e w' => e = .returned (.tuple #[.string A, .bool L, .string C, .bool true]) ∧ Below W.heap.size W w' := by
  have hci : ¬ (c : Int) < 128 := by omega
  have hm1 : (1 : Int) ≤ (m : Int) + 1 := by omega
  have hni : ((c : Int) - 128) % 64 = (n : Int) := by omega
  have hnmi : (n : Int) ≤ (m : Int) := by omega
  have hn5 : ¬ (55 : Int) < (n : Int) := by omega
  go_enter Tryz.func90, Tryz.ntmps90
  go_wp2
  first | refine wp_flow (fun k => ([1, 1, 1, 1, 1, 1, 1, 1] : List Nat).getD k 1) Dr _ (Dr.next _ _) (by kernel_rfl) (by kernel_rfl) ?_ | refine wp_flow (fun k => ([1, 1, 1, 1, 1, 1, 1, 1] : List Nat).getD k 1) Dr _ (Dr.one _) (by kernel_rfl) (by kernel_rfl) ?_
  iterate 8 ((refine flow_quiet rfl rfl (fun K hK => ?_); apply Exists.intro; apply And.intro; (focus (rintro w' ⟨nn, rfl⟩; go_simp; (try go_bits); exact ⟨rfl, Dr.of _ _⟩)); go_simp; (try go_bits); refine hK _ ?_; clear hK K))
  refine flow_nil ?_
  rintro w' ⟨nq, rfl⟩
  cases L with
  | true =>
    go_wp2
    first | refine wp_flow (fun k => ([1, 1, 1, 1, 1, 1, 1, 1, 1, 1, 1, 1, 1, 1, 1, 1, 1] : List Nat).getD k 1) Dr _ (Dr.next _ _) (by kernel_rfl) (by kernel_rfl) ?_ | refine wp_flow (fun k => ([1, 1, 1, 1, 1, 1, 1, 1, 1, 1, 1, 1, 1, 1, 1, 1, 1] : List Nat).getD k 1) Dr _ (Dr.one _) (by kernel_rfl) (by kernel_rfl) ?_
    iterate 5 ((refine flow_quiet rfl rfl (fun K hK => ?_); apply Exists.intro; apply And.intro; (focus (rintro w' ⟨nn, rfl⟩; go_simp; (try go_bits); exact ⟨rfl, Dr.of _ _⟩)); go_simp; (try go_bits); refine hK _ ?_; clear hK K))
    iterate 2 (first | (refine flow_skip rfl (fun K hK => ?_); go_simp; (try go_bits); refine hK _ ?_; clear hK K) | (refine flow_quiet rfl rfl (fun K hK => ?_); apply Exists.intro; apply And.intro; (focus (rintro w' ⟨nn, rfl⟩; go_simp; (try go_bits); exact ⟨rfl, Dr.of _ _⟩)); go_simp; (try go_bits); refine hK _ ?_; clear hK K))
    iterate 2 ((refine flow_quiet rfl rfl (fun K hK => ?_); apply Exists.intro; apply And.intro; (focus (rintro w' ⟨nn, rfl⟩; go_simp; (try go_bits); exact ⟨rfl, Dr.of _ _⟩)); go_simp; (try go_bits); refine hK _ ?_; clear hK K))
    iterate 3 (first | (refine flow_skip rfl (fun K hK => ?_); go_simp; (try go_bits); refine hK _ ?_; clear hK K) | (refine flow_quiet rfl rfl (fun K hK => ?_); apply Exists.intro; apply And.intro; (focus (rintro w' ⟨nn, rfl⟩; go_simp; (try go_bits); exact ⟨rfl, Dr.of _ _⟩)); go_simp; (try go_bits); refine hK _ ?_; clear hK K))
    iterate 5 ((refine flow_quiet rfl rfl (fun K hK => ?_); apply Exists.intro; apply And.intro; (focus (rintro w' ⟨nn, rfl⟩; go_simp; (try go_bits); exact ⟨rfl, Dr.of _ _⟩)); go_simp; (try go_bits); refine hK _ ?_; clear hK K))
    refine flow_nil ?_
    rintro w' ⟨nq, rfl⟩
    go_wp2
    refine bodyPost_ret (by simp only [results, Tryz.results90]; go_simp; try rfl) rfl ⟨rfl, ?_⟩
    repeat (with_reducible first | exact Below.refl _ _ | assumption | refine below_drewN ?_ _ | refine Below.drew ?_ | refine Below.setCell ?_ (by first | omega | (simp; done) | (simp; omega)) _ | refine Below.alloc ?_ (by first | omega | (simp; done) | (simp; omega)) _ | refine Below.trans ?_ (Below.mono (by assumption) (by first | omega | (simp; done) | (simp; omega))))
  | false =>
    by_cases h1 : n = 1
    · obtain ⟨hA0, hAx⟩ := hone rfl h1
      subst h1
      have hAi : (128 : Int) ≤ ((A[0]'hA0).toNat : Int) := by omega
      clear hone
      go_wp2
      first | refine wp_flow (fun k => ([1, 1, 1, 1, 1, 1, 1, 1, 1, 1, 1, 1, 1, 1, 1, 1, 1] : List Nat).getD k 1) Dr _ (Dr.next _ _) (by kernel_rfl) (by kernel_rfl) ?_ | refine wp_flow (fun k => ([1, 1, 1, 1, 1, 1, 1, 1, 1, 1, 1, 1, 1, 1, 1, 1, 1] : List Nat).getD k 1) Dr _ (Dr.one _) (by kernel_rfl) (by kernel_rfl) ?_
      iterate 5 ((refine flow_quiet rfl rfl (fun K hK => ?_); apply Exists.intro; apply And.intro; (focus (rintro w' ⟨nn, rfl⟩; go_simp; (try go_bits); exact ⟨rfl, Dr.of _ _⟩)); go_simp; (try go_bits); refine hK _ ?_; clear hK K))
      iterate 2 (first | (refine flow_skip rfl (fun K hK => ?_); go_simp; (try go_bits); refine hK _ ?_; clear hK K) | (refine flow_quiet rfl rfl (fun K hK => ?_); apply Exists.intro; apply And.intro; (focus (rintro w' ⟨nn, rfl⟩; go_simp; (try go_bits); exact ⟨rfl, Dr.of _ _⟩)); go_simp; (try go_bits); refine hK _ ?_; clear hK K))
      iterate 2 ((refine flow_quiet rfl rfl (fun K hK => ?_); apply Exists.intro; apply And.intro; (focus (rintro w' ⟨nn, rfl⟩; go_simp; (try go_bits); exact ⟨rfl, Dr.of _ _⟩)); go_simp; (try go_bits); refine hK _ ?_; clear hK K))
      iterate 3 (first | (refine flow_skip rfl (fun K hK => ?_); go_simp; (try go_bits); refine hK _ ?_; clear hK K) | (refine flow_quiet rfl rfl (fun K hK => ?_); apply Exists.intro; apply And.intro; (focus (rintro w' ⟨nn, rfl⟩; go_simp; (try go_bits); exact ⟨rfl, Dr.of _ _⟩)); go_simp; (try go_bits); refine hK _ ?_; clear hK K))
      iterate 5 ((refine flow_quiet rfl rfl (fun K hK => ?_); apply Exists.intro; apply And.intro; (focus (rintro w' ⟨nn, rfl⟩; go_simp; (try go_bits); exact ⟨rfl, Dr.of _ _⟩)); go_simp; (try go_bits); refine hK _ ?_; clear hK K))
      refine flow_nil ?_
      rintro w' ⟨nq, rfl⟩
      go_wp2
      refine bodyPost_ret (by simp only [results, Tryz.results90]; go_simp; try rfl) rfl ⟨rfl, ?_⟩
      repeat (with_reducible first | exact Below.refl _ _ | assumption | refine below_drewN ?_ _ | refine Below.drew ?_ | refine Below.setCell ?_ (by first | omega | (simp; done) | (simp; omega)) _ | refine Below.alloc ?_ (by first | omega | (simp; done) | (simp; omega)) _ | refine Below.trans ?_ (Below.mono (by assumption) (by first | omega | (simp; done) | (simp; omega))))
    · have h1i : ((n : Int) != 1) = true := by rw [bne_iff_ne]; omega
      clear hone
      go_wp2
      first | refine wp_flow (fun k => ([1, 1, 1, 1, 1, 1, 1, 1, 1, 1, 1, 1, 1, 1, 1, 1, 1] : List Nat).getD k 1) Dr _ (Dr.next _ _) (by kernel_rfl) (by kernel_rfl) ?_ | refine wp_flow (fun k => ([1, 1, 1, 1, 1, 1, 1, 1, 1, 1, 1, 1, 1, 1, 1, 1, 1] : List Nat).getD k 1) Dr _ (Dr.one _) (by kernel_rfl) (by kernel_rfl) ?_
      iterate 5 ((refine flow_quiet rfl rfl (fun K hK => ?_); apply Exists.intro; apply And.intro; (focus (rintro w' ⟨nn, rfl⟩; go_simp; (try go_bits); exact ⟨rfl, Dr.of _ _⟩)); go_simp; (try go_bits); refine hK _ ?_; clear hK K))
      iterate 2 (first | (refine flow_skip rfl (fun K hK => ?_); go_simp; (try go_bits); refine hK _ ?_; clear hK K) | (refine flow_quiet rfl rfl (fun K hK => ?_); apply Exists.intro; apply And.intro; (focus (rintro w' ⟨nn, rfl⟩; go_simp; (try go_bits); exact ⟨rfl, Dr.of _ _⟩)); go_simp; (try go_bits); refine hK _ ?_; clear hK K))
      iterate 2 ((refine flow_quiet rfl rfl (fun K hK => ?_); apply Exists.intro; apply And.intro; (focus (rintro w' ⟨nn, rfl⟩; go_simp; (try go_bits); exact ⟨rfl, Dr.of _ _⟩)); go_simp; (try go_bits); refine hK _ ?_; clear hK K))
      iterate 3 (first | (refine flow_skip rfl (fun K hK => ?_); go_simp; (try go_bits); refine hK _ ?_; clear hK K) | (refine flow_quiet rfl rfl (fun K hK => ?_); apply Exists.intro; apply And.intro; (focus (rintro w' ⟨nn, rfl⟩; go_simp; (try go_bits); exact ⟨rfl, Dr.of _ _⟩)); go_simp; (try go_bits); refine hK _ ?_; clear hK K))
      iterate 5 ((refine flow_quiet rfl rfl (fun K hK => ?_); apply Exists.intro; apply And.intro; (focus (rintro w' ⟨nn, rfl⟩; go_simp; (try go_bits); exact ⟨rfl, Dr.of _ _⟩)); go_simp; (try go_bits); refine hK _ ?_; clear hK K))
      refine flow_nil ?_
      rintro w' ⟨nq, rfl⟩
      go_wp2
      refine bodyPost_ret (by simp only [results, Tryz.results90]; go_simp; try rfl) rfl ⟨rfl, ?_⟩
      repeat (with_reducible first | exact Below.refl _ _ | assumption | refine below_drewN ?_ _ | refine Below.drew ?_ | refine Below.setCell ?_ (by first | omega | (simp; done) | (simp; omega)) _ | refine Below.alloc ?_ (by first | omega | (simp; done) | (simp; omega)) _ | refine Below.trans ?_ (Below.mono (by assumption) (by first | omega | (simp; done) | (simp; omega))))

set_option maxRecDepth 100000 in
set_option maxHeartbeats 8000000 in
theorem cutS_long (S B N B2 A C : ByteArray) (k q c v : Nat) (L : Bool) (hm : k + q ≤ 1000000) (hz : S.size = k + q + 1) (h0 : S.toList.isEmpty = false) (hS : 0 < S.size) (hx : (((S[0]'hS).toNat : Nat) : Int) = (c : Int)) (hc : 128 ≤ c) (hc2 : c < 256) (hL : decide ((192 : Int) ≤ (c : Int)) = L) (hn : (c - 128) % 64 = 55 + k) (hk : 1 ≤ k)
    (e1 : S.extract 1 (k + q + 1) = B) (hB : B.size = k + q) (eN : B.extract 0 k = N) (eB : B.extract k (k + q) = B2) (hB2 : B2.size = q) (hv : 56 ≤ v) (hvq : v ≤ q) (e2 : B2.extract 0 v = A) (e3 : B2.extract v q = C) (hA : A.size = v)
    (cV : ∀ w, Calls Tryz.prog 27 #[.string N] w fun e w' => e = .returned (.tuple #[.int .u64 (v : Nat), .int .i64 0]) ∧ Below w.heap.size w w') (W : World) :
    Calls Tryz.prog 90 #[.string S] W fun e w' => e = .returned (.tuple #[.string A, .bool L, .string C, .bool true]) ∧ Below W.heap.size W w' := by
  have hci : ¬ (c : Int) < 128 := by omega
  have hm1 : (1 : Int) ≤ ((k : Int) + (q : Int)) + 1 := by omega
  have hni : ((c : Int) - 128) % 64 = 55 + (k : Int) := by omega
  have hn5 : (55 : Int) < 55 + (k : Int) := by omega
  have hkk : (55 : Int) + (k : Int) - 55 = (k : Int) := by omega
  have hkm : (k : Int) ≤ ((k : Int) + (q : Int)) := by omega
  have hkm2 : ¬ ((k : Int) + (q : Int)) < (k : Int) := by omega
  have hvi : ¬ (v : Int) < 56 := by omega
  have hqv : ¬ (q : Int) < (v : Int) := by omega
  have hqv2 : (v : Int) ≤ (q : Int) := by omega
  have h1i : ((v : Int) != 1) = true := by rw [bne_iff_ne]; omega
  go_enter Tryz.func90, Tryz.ntmps90
  go_wp2_with (go_at_call 27; refine (cV _).mono ?_; rintro e w1 ⟨rfl, hb1⟩)
  first | refine wp_flow (fun k => ([1, 1, 1, 1, 1, 1] : List Nat).getD k 1) Dr _ (Dr.next _ _) (by kernel_rfl) (by kernel_rfl) ?_ | refine wp_flow (fun k => ([1, 1, 1, 1, 1, 1] : List Nat).getD k 1) Dr _ (Dr.one _) (by kernel_rfl) (by kernel_rfl) ?_
  iterate 6 ((refine flow_quiet rfl rfl (fun K hK => ?_); apply Exists.intro; apply And.intro; (focus (rintro w' ⟨nn, rfl⟩; go_simp; (try go_bits); exact ⟨rfl, Dr.of _ _⟩)); go_simp; (try go_bits); refine hK _ ?_; clear hK K))
  refine flow_nil ?_
  rintro w' ⟨nq, rfl⟩
  go_wp2
  first | refine wp_flow (fun k => ([1, 1, 1, 1, 1, 1, 1, 1] : List Nat).getD k 1) Dr _ (Dr.next _ _) (by kernel_rfl) (by kernel_rfl) ?_ | refine wp_flow (fun k => ([1, 1, 1, 1, 1, 1, 1, 1] : List Nat).getD k 1) Dr _ (Dr.one _) (by kernel_rfl) (by kernel_rfl) ?_
  iterate 8 ((refine flow_quiet rfl rfl (fun K hK => ?_); apply Exists.intro; apply And.intro; (focus (rintro w' ⟨nn, rfl⟩; go_simp; (try go_bits); exact ⟨rfl, Dr.of _ _⟩)); go_simp; (try go_bits); refine hK _ ?_; clear hK K))
  refine flow_nil ?_
  rintro w' ⟨nq, rfl⟩
  cases L with
  | true =>
    go_wp2
    first | refine wp_flow (fun k => ([1, 1, 1, 1, 1, 1, 1, 1, 1, 1, 1, 1, 1, 1, 1, 1, 1] : List Nat).getD k 1) Dr _ (Dr.next _ _) (by kernel_rfl) (by kernel_rfl) ?_ | refine wp_flow (fun k => ([1, 1, 1, 1, 1, 1, 1, 1, 1, 1, 1, 1, 1, 1, 1, 1, 1] : List Nat).getD k 1) Dr _ (Dr.one _) (by kernel_rfl) (by kernel_rfl) ?_
    iterate 5 ((refine flow_quiet rfl rfl (fun K hK => ?_); apply Exists.intro; apply And.intro; (focus (rintro w' ⟨nn, rfl⟩; go_simp; (try go_bits); exact ⟨rfl, Dr.of _ _⟩)); go_simp; (try go_bits); refine hK _ ?_; clear hK K))
    iterate 2 (first | (refine flow_skip rfl (fun K hK => ?_); go_simp; (try go_bits); refine hK _ ?_; clear hK K) | (refine flow_quiet rfl rfl (fun K hK => ?_); apply Exists.intro; apply And.intro; (focus (rintro w' ⟨nn, rfl⟩; go_simp; (try go_bits); exact ⟨rfl, Dr.of _ _⟩)); go_simp; (try go_bits); refine hK _ ?_; clear hK K))
    iterate 2 ((refine flow_quiet rfl rfl (fun K hK => ?_); apply Exists.intro; apply And.intro; (focus (rintro w' ⟨nn, rfl⟩; go_simp; (try go_bits); exact ⟨rfl, Dr.of _ _⟩)); go_simp; (try go_bits); refine hK _ ?_; clear hK K))
    iterate 3 (first | (refine flow_skip rfl (fun K hK => ?_); go_simp; (try go_bits); refine hK _ ?_; clear hK K) | (refine flow_quiet rfl rfl (fun K hK => ?_); apply Exists.intro; apply And.intro; (focus (rintro w' ⟨nn, rfl⟩; go_simp; (try go_bits); exact ⟨rfl, Dr.of _ _⟩)); go_simp; (try go_bits); refine hK _ ?_; clear hK K))
    iterate 5 ((refine flow_quiet rfl rfl (fun K hK => ?_); apply Exists.intro; apply And.intro; (focus (rintro w' ⟨nn, rfl⟩; go_simp; (try go_bits); exact ⟨rfl, Dr.of _ _⟩)); go_simp; (try go_bits); refine hK _ ?_; clear hK K))
    refine flow_nil ?_
    rintro w' ⟨nq, rfl⟩
    go_wp2
    refine bodyPost_ret (by simp only [results, Tryz.results90]; go_simp; try rfl) rfl ⟨rfl, ?_⟩
    repeat (with_reducible first | exact Below.refl _ _ | assumption | refine below_drewN ?_ _ | refine Below.drew ?_ | refine Below.setCell ?_ (by first | omega | (simp; done) | (simp; omega)) _ | refine Below.alloc ?_ (by first | omega | (simp; done) | (simp; omega)) _ | refine Below.trans ?_ (Below.mono (by assumption) (by first | omega | (simp; done) | (simp; omega))))
  | false =>
    go_wp2
    first | refine wp_flow (fun k => ([1, 1, 1, 1, 1, 1, 1, 1, 1, 1, 1, 1, 1, 1, 1, 1, 1] : List Nat).getD k 1) Dr _ (Dr.next _ _) (by kernel_rfl) (by kernel_rfl) ?_ | refine wp_flow (fun k => ([1, 1, 1, 1, 1, 1, 1, 1, 1, 1, 1, 1, 1, 1, 1, 1, 1] : List Nat).getD k 1) Dr _ (Dr.one _) (by kernel_rfl) (by kernel_rfl) ?_
    iterate 5 ((refine flow_quiet rfl rfl (fun K hK => ?_); apply Exists.intro; apply And.intro; (focus (rintro w' ⟨nn, rfl⟩; go_simp; (try go_bits); exact ⟨rfl, Dr.of _ _⟩)); go_simp; (try go_bits); refine hK _ ?_; clear hK K))
    iterate 2 (first | (refine flow_skip rfl (fun K hK => ?_); go_simp; (try go_bits); refine hK _ ?_; clear hK K) | (refine flow_quiet rfl rfl (fun K hK => ?_); apply Exists.intro; apply And.intro; (focus (rintro w' ⟨nn, rfl⟩; go_simp; (try go_bits); exact ⟨rfl, Dr.of _ _⟩)); go_simp; (try go_bits); refine hK _ ?_; clear hK K))
    iterate 2 ((refine flow_quiet rfl rfl (fun K hK => ?_); apply Exists.intro; apply And.intro; (focus (rintro w' ⟨nn, rfl⟩; go_simp; (try go_bits); exact ⟨rfl, Dr.of _ _⟩)); go_simp; (try go_bits); refine hK _ ?_; clear hK K))
    iterate 3 (first | (refine flow_skip rfl (fun K hK => ?_); go_simp; (try go_bits); refine hK _ ?_; clear hK K) | (refine flow_quiet rfl rfl (fun K hK => ?_); apply Exists.intro; apply And.intro; (focus (rintro w' ⟨nn, rfl⟩; go_simp; (try go_bits); exact ⟨rfl, Dr.of _ _⟩)); go_simp; (try go_bits); refine hK _ ?_; clear hK K))
    iterate 5 ((refine flow_quiet rfl rfl (fun K hK => ?_); apply Exists.intro; apply And.intro; (focus (rintro w' ⟨nn, rfl⟩; go_simp; (try go_bits); exact ⟨rfl, Dr.of _ _⟩)); go_simp; (try go_bits); refine hK _ ?_; clear hK K))
    refine flow_nil ?_
    rintro w' ⟨nq, rfl⟩
    go_wp2
    refine bodyPost_ret (by simp only [results, Tryz.results90]; go_simp; try rfl) rfl ⟨rfl, ?_⟩
    repeat (with_reducible first | exact Below.refl _ _ | assumption | refine below_drewN ?_ _ | refine Below.drew ?_ | refine Below.setCell ?_ (by first | omega | (simp; done) | (simp; omega)) _ | refine Below.alloc ?_ (by first | omega | (simp; done) | (simp; omega)) _ | refine Below.trans ?_ (Below.mono (by assumption) (by first | omega | (simp; done) | (simp; omega))))
/-- The first thing of bytes is cut off. -/
theorem cut_any (x : It) (r : Bs) (hlen : (enc x ++ r).length ≤ 1000000) (W : World) :
    Calls Tryz.prog 90 #[.string (bsS (enc x ++ r))] W fun e w' => e = .returned (.tuple #[.string (bsS (pay x)), .bool (isL x), .string (bsS r), .bool true]) ∧ Below W.heap.size W w' := by
  have hsh := shape x
  have hne : ∀ (b : UInt8) (t : Bs), (bsS (b :: t)).toList.isEmpty = false := fun b t => by rw [bsS_list]; rfl
  have hp0 : ∀ (b : UInt8) (t : Bs), 0 < (bsS (b :: t)).size := fun b t => by rw [bsS_size]; simp
  generalize hs : enc x = s at *
  cases hsh with
  | byte b h =>
    simp only [List.length_append, List.length_singleton] at hlen
    refine cutS_byte _ _ _ r.length b.toNat (by omega) (by rw [bsS_size]; (simp <;> omega)) (hne b r) (hp0 b r) rfl h (ext_one b r) (ext_tail b r) W
  | short x f hf h h1 =>
    simp only [List.length_append, List.length_cons] at hlen
    have hfl : (UInt8.ofNat (f + (pay x).length)).toNat = f + (pay x).length := u8_of (by split at hf <;> omega)
    refine cutS_short _ (bsS (pay x ++ r)) _ _ ((pay x).length + r.length) (f + (pay x).length) (pay x).length (isL x) (by omega) (by rw [bsS_size]; (simp <;> omega)) (hne _ _) (hp0 _ _) (congrArg Int.ofNat hfl) (by split at hf <;> omega) (by split at hf <;> omega) ?_ (by split at hf <;> omega) (by omega) (by omega) ?_ ?_ (ext_head _ _) (ext_rest _ _) (bsS_size _) ?_ W
    · split at hf
      · rename_i e
        rw [e]
        simp
        omega
      · rename_i e
        rw [eq_false_of_ne_true e]
        simp
        omega
    · have := ext_tail (UInt8.ofNat (f + (pay x).length)) (pay x ++ r)
      rw [List.length_append] at this
      exact this
    · rw [bsS_size, List.length_append]
    · intro hL hn
      obtain ⟨b, hb⟩ := List.length_eq_one_iff.1 hn
      rw [hb]
      exact ⟨by rw [bsS_size]; simp, h1 hL b hb⟩
  | long x f hf h =>
    simp only [List.length_append, List.length_cons] at hlen
    have hk := num_len (pay x).length
    have hk1 := num_pos (n := (pay x).length) (by omega) (by omega)
    have hfl : (UInt8.ofNat (f + 55 + (num (pay x).length).length)).toNat = f + 55 + (num (pay x).length).length := u8_of (by split at hf <;> omega)
    have hva := valB_num (n := (pay x).length) (by omega)
    rw [show UInt8.ofNat (f + 55 + (num (pay x).length).length) :: (num (pay x).length ++ pay x) ++ r = UInt8.ofNat (f + 55 + (num (pay x).length).length) :: (num (pay x).length ++ (pay x ++ r)) by simp]
    refine cutS_long _ (bsS (num (pay x).length ++ (pay x ++ r))) (bsS (num (pay x).length)) (bsS (pay x ++ r)) _ _ (num (pay x).length).length ((pay x).length + r.length) (f + 55 + (num (pay x).length).length) (pay x).length (isL x) (by omega) (by rw [bsS_size]; (simp <;> omega)) (hne _ _) (hp0 _ _) (congrArg Int.ofNat hfl) (by split at hf <;> omega) (by split at hf <;> omega) ?_ (by split at hf <;> omega) hk1 ?_ ?_ (ext_head _ _) ?_ ?_ h (by omega) (ext_head _ _) (ext_rest _ _) (bsS_size _) (fun w => ?_) W
    · split at hf
      · rename_i e
        rw [e]
        simp
        omega
      · rename_i e
        rw [eq_false_of_ne_true e]
        simp
        omega
    · have := ext_tail (UInt8.ofNat (f + 55 + (num (pay x).length).length)) (num (pay x).length ++ (pay x ++ r))
      simp only [List.length_append] at this
      exact this
    · rw [bsS_size, List.length_append, List.length_append]
    · have := ext_rest (num (pay x).length) (pay x ++ r)
      rw [List.length_append] at this
      exact this
    · rw [bsS_size, List.length_append]
    · have := Value_any (num (pay x).length) (num_ok _) w
      rw [hva] at this
      exact this
end Go.Proofs.YtijidnhaijdfaaaGreatDoor
