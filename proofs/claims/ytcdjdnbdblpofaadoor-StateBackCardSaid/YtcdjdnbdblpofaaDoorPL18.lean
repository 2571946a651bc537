/-
  The iterator over an account's cells: its contract. Conditions: the account is right.
-/
import Derived.RangeFuncBox
import Derived.LoopNIn
import Derived.LoopIn
import Derived.WalkMore
import Derived.Shelf.Abstract
import Derived.Test.YtcdjdnbdblpofaaDoorPL17
import Derived.Test.YtcdjdnbdblpofaaDoorTLoop
namespace Go.Proofs.YtcdjdnbdblpofaaDoor
open Go.RowKit Go.Maps
attribute [local go_sem] leftBy leaves Oper.semAt_some
set_option linter.unusedSimpArgs false
set_option linter.unusedVariables false

theorem cellsOf_any (K : Kw) (w : World) :
    Calls Tryd.prog 37 #[K.v] w fun e w' => e = .returned (.func (.func 58) #[] #[ptr w.heap.size]) ∧ w' = w.alloc (.cells K.v.cells 65) := by
  unfold Kw.v Kw.kn Kn.v ptr
  go_enter Tryd.func37, Tryd.ntmps37
  go_wp2
  go_ret
  exact ⟨rfl, rfl⟩

/-- Cell k. -/
def Kw.at (K : Kw) (k : Nat) : Nat × Nat := K.cs.getD k (0, 0)

set_option maxRecDepth 100000 in
set_option maxHeartbeats 4000000 in
theorem cells_it (n : Nat) (hn : 1 ≤ n) (l Bx : Nat) (K : Kw) (J : Nat → World → Prop) (Jx : World → Prop) (W : World) (hJb : ∀ k W W', J k W → Below W.heap.size W W' → J k W')
    (hY : ∀ k W1, J k W1 → k < K.cn → YieldAt (FW none) (n - 1) Tryd.prog l #[W4 (K.at k).1, W4 (K.at k).2] W1 fun e W' => (e = .returned (.bool true) ∧ J (k + 1) W' ∧ True) ∨ (e = .returned (.bool false) ∧ Jx W'))
    (hB : ∀ k W1, J k W1 → W1.cell? ⟨Bx, 11, none⟩ = some (.slice K.cp K.cn K.cc)) (hK : ∀ k W1, J k W1 → Kok W1 K) (h0 : J 0 W) :
    CallsIn (FW none) n Tryd.prog 58 #[.func (.yield l) #[] #[], ptr Bx] W fun e W' => (∃ v, e = .returned v) ∧ (J K.cn W' ∨ Jx W') := by
  have hB0 := hB 0 W h0
  have hm0 := (hK 0 W h0).mem
  have hkc := (hK 0 W h0).cc
  have hcl := (hK 0 W h0).len
  unfold maxLen at hkc
  obtain ⟨cc1, cc2⟩ := hkc
  refine callsIn_of_wp Tryd.func58 rfl trivial ?_ rfl
  simp only [Tryd.ntmps58, ptr, List.size_toArray, List.length_cons, List.length_nil, Nat.reduceAdd, Nat.reduceSub, Array.replicate_succ, Array.replicate_zero, List.push_toArray, List.append_toArray, List.nil_append, List.cons_append]
  by_cases hz : K.cn = 0
  · rw [hz] at hB0
    gi_wp2
    gi_loopw [8] (fun i wr => i = .int .i64 0 ∧ wr = W) (fun i _ => 0)
    case atStart => exact ⟨rfl, rfl⟩
    case round =>
      obtain ⟨rfl, rfl⟩ := hrel
      gi_wp2
      go_end0
      exact ⟨⟨_, rfl⟩, .inl (hz ▸ h0)⟩
  obtain ⟨bl, o, hcp⟩ : ∃ bl o, K.cp = some ⟨bl, o, none⟩ := by
    obtain ⟨bl, o, h, _⟩ := hm0 0 _ (List.getElem?_eq_getElem (by omega))
    exact ⟨bl, o, h⟩
  clear hm0 hz
  rw [hcp] at hB0 hB
  gi_wp2
  gi_loopw [8] (fun i wr => ∃ k : Nat, k ≤ K.cn ∧ i = .int .i64 k ∧ J k wr) (fun i _ => (K.cn - (intOf i).toNat))
  case atStart => exact ⟨0, Nat.zero_le _, rfl, h0⟩
  case round =>
    obtain ⟨k, hk, rfl, hJ⟩ := hrel
    by_cases hlt : k < K.cn
    · obtain ⟨c, hc⟩ : ∃ c, K.cs[k]? = some c := ⟨_, List.getElem?_eq_getElem (by omega)⟩
      obtain ⟨bl2, o2, hcp2, m1, m2⟩ := (hK k wr hJ).mem k c hc
      obtain ⟨rfl, rfl⟩ : bl = bl2 ∧ o = o2 := by
        have := hcp.symm.trans hcp2
        simpa using this
      clear hcp2
      have hat : K.at k = c := by unfold Kw.at; rw [List.getD_eq_getElem?_getD, hc]; rfl
      have a0 : wr.cell? ⟨bl, o + k * 8, none⟩ = _ := m1 0 (by omega)
      have a1 : wr.cell? ⟨bl, o + k * 8 + 1, none⟩ = _ := m1 1 (by omega)
      have a2 : wr.cell? ⟨bl, o + k * 8 + 2, none⟩ = _ := m1 2 (by omega)
      have a3 : wr.cell? ⟨bl, o + k * 8 + 3, none⟩ = _ := m1 3 (by omega)
      have b0 : wr.cell? ⟨bl, o + k * 8 + 4, none⟩ = _ := m2 0 (by omega)
      have b1 : wr.cell? ⟨bl, o + k * 8 + 5, none⟩ = _ := m2 1 (by omega)
      have b2 : wr.cell? ⟨bl, o + k * 8 + 6, none⟩ = _ := m2 2 (by omega)
      have b3 : wr.cell? ⟨bl, o + k * 8 + 7, none⟩ = _ := m2 3 (by omega)
      clear m1 m2
      have hJ2 := hJb k wr _ hJ ((Below.refl wr.heap.size wr).alloc (Nat.le_refl _) (.cells #[.int .u64 (lb c.1 0 : Nat), .int .u64 (lb c.1 1 : Nat), .int .u64 (lb c.1 2 : Nat), .int .u64 (lb c.1 3 : Nat), .int .u64 (lb c.2 0 : Nat), .int .u64 (lb c.2 1 : Nat), .int .u64 (lb c.2 2 : Nat), .int .u64 (lb c.2 3 : Nat)] 103))
      obtain ⟨fn, tmps, assign, body, hy, hR⟩ := hY k _ hJ2 hlt
      rw [hat] at hy
      clear hJ2
      gi_wp2
      refine hR.mono ?_
      rintro e W3 (⟨rfl, hJ3, _⟩ | ⟨rfl, hx⟩)
      · gi_wp2
        go_roundw
        case rel => exact ⟨k + 1, by omega, by go_num, hJ3⟩
        case measure => simp [intOf]; omega
      · gi_wp2
        refine bodyPost_ret (v := .tuple #[]) (by rw [results_none (fn := Tryd.f58) rfl]) rfl ⟨⟨_, rfl⟩, .inr hx⟩
    · obtain rfl : k = K.cn := by omega
      gi_wp2
      go_end0
      exact ⟨⟨_, rfl⟩, .inl hJ⟩
end Go.Proofs.YtcdjdnbdblpofaaDoor
