/-
  What growing costs is what the cost grows by; a part and the one behind it are both: pharoslaw18.MemoSums returns true at every input. Conditions: none.
-/
import Derived.Test.YtbgeenkkdfbngaaMNeed
import Derived.Test.YtbgeenkkdfbngaaOpen
namespace Go.Proofs.Ytbgeenkkdfbngaa.MemoSumsDone
open Go.ChangeShapes Go.WideShapes Go.ChangeAt Go.RowKit Go.Proofs.Ytbgeenkkdfbngaa
open Go.ChangeMaps (open_string shut_string)
attribute [local go_sem] leftBy eqW guardW
set_option linter.unusedSimpArgs false
set_option linter.unusedVariables false



set_option maxHeartbeats 8000000 in
theorem walk0 (m0 m1 m y s t x : ByteArray) (off n g CY CM at0 a0 b0 at1 a b : Nat) (E F H : Int) (ok : Bool)
    (cS : ∀ W, Calls Try.prog 8 #[] W fun e w' => e = .returned (.bool true) ∧ Below W.heap.size W w')
    (cC : ∀ W, Calls Try.prog 9 #[.string m0] W fun e w' => e = .returned (.string m1) ∧ w' = W)
    (cN : ∀ W, Calls Try.prog 10 #[.string m, W4 off, W4 n] W fun e w' => e = .returned (.tuple #[.string y, .int .u64 (g : Nat), .bool ok]) ∧ Below W.heap.size W w')
    (cY : ∀ W, Calls Try.prog 11 #[.int .i64 (y.size : Nat)] W fun e w' => e = .returned (.int .u64 (CY : Nat)) ∧ w' = W)
    (cM : ∀ W, Calls Try.prog 11 #[.int .i64 (m.size : Nat)] W fun e w' => e = .returned (.int .u64 (CM : Nat)) ∧ w' = W)
    (c1 : ∀ W, Calls Try.prog 12 #[.string m, .int .u64 (at1 : Nat), .int .u64 ((a : Nat) + (b : Nat))] W fun e w' => e = .returned (.tuple #[.string x, .int .i64 E]) ∧ w' = W)
    (c2 : ∀ W, Calls Try.prog 12 #[.string m, .int .u64 (at1 : Nat), .int .u64 (a : Nat)] W fun e w' => e = .returned (.tuple #[.string s, .int .i64 F]) ∧ w' = W)
    (c3 : ∀ W, Calls Try.prog 12 #[.string m, .int .u64 ((at1 : Nat) + (a : Nat)), .int .u64 (b : Nat)] W fun e w' => e = .returned (.tuple #[.string t, .int .i64 H]) ∧ w' = W)
    (h1 : m1.size ≤ 10000) (hx : m1.extract 0 ((m1.size : Int) / 32 * 32).toNat = m) (hy : ((y.size : Nat) : Int) % 32 = 0) (hg : ((CY : Nat) : Int) - ((CM : Nat) : Int) = ((g : Nat) : Int)) (hle : CM ≤ CY) (hlt : CY < 1000000)
    (q0 : ((at0 : Nat) : Int) % 10001 = ((at1 : Nat) : Int)) (q1 : ((a0 : Nat) : Int) % 10001 = ((a : Nat) : Int)) (q2 : ((b0 : Nat) : Int) % 10001 = ((b : Nat) : Int)) (l0 : at1 < 10001) (l1 : a < 10001) (l2 : b < 10001)
    (hc : s.size + t.size ≤ 30000)
    (hE : (E = 2) ∨ (E = 0 ∧ F = 0 ∧ H = 0 ∧ x = s ++ t)) (w : World) :
    Calls Try.prog 3 #[.string m0, W4 off, W4 n, .int .u64 (at0 : Nat), .int .u64 (a0 : Nat), .int .u64 (b0 : Nat)] w fun e w' => e = .returned (.bool true) ∧ Below w.heap.size w w' := by
  have hcat : ¬ 9223372036854775807 < s.size + t.size := by omega
  have hcat2 : s.size + t.size ≤ 9223372036854775807 := by omega
  have hmi : (m1.size : Int) ≤ 10000 := by omega
  cases ok <;> (rcases hE with rfl | ⟨rfl, rfl, rfl, rfl⟩)
  all_goals
    go_enter Try.func3, Try.ntmps3
    go_wp2_with (first | (go_at_call 8; with_reducible refine (cS _).mono ?_; rintro e wa ⟨rfl, hb_wa⟩; have hc_wa := (bcell hb_wa).1; have hf_wa := (bcell hb_wa).2; have hz_wa : _ ≤ wa.heap.size := hb_wa.size; (try simp only [World.size_alloc, World.heap_drewN, World.size_setCell, heap_drew] at hc_wa hf_wa hz_wa); have hz_wa_w_0 : w.heap.size < wa.heap.size := (by omega); have hz_wa_w_1 : w.heap.size + 1 < wa.heap.size := (by omega)) | (go_at_call 9; with_reducible refine (cC _).mono ?_; rintro e _ ⟨rfl, hww⟩; obtain rfl := hww.symm)| (go_at_call 10; with_reducible refine (cN _).mono ?_; rintro e wb ⟨rfl, hb_wb⟩; have hc_wb := (bcell hb_wb).1; have hf_wb := (bcell hb_wb).2; have hz_wb : _ ≤ wb.heap.size := hb_wb.size; (try simp only [World.size_alloc, World.heap_drewN, World.size_setCell, heap_drew] at hc_wb hf_wb hz_wb); have hz_wb_w_0 : w.heap.size < wb.heap.size := (by omega); have hz_wb_w_1 : w.heap.size + 1 < wb.heap.size := (by omega)) | (go_at_call 11; with_reducible refine (cY _).mono ?_; rintro e _ ⟨rfl, hww⟩; obtain rfl := hww.symm) | (go_at_call 11; with_reducible refine (cM _).mono ?_; rintro e _ ⟨rfl, hww⟩; obtain rfl := hww.symm) | (go_at_call 12; with_reducible refine (c1 _).mono ?_; rintro e _ ⟨rfl, hww⟩; obtain rfl := hww.symm) | (go_at_call 12; with_reducible refine (c2 _).mono ?_; rintro e _ ⟨rfl, hww⟩; obtain rfl := hww.symm) | (go_at_call 12; with_reducible refine (c3 _).mono ?_; rintro e _ ⟨rfl, hww⟩; obtain rfl := hww.symm))
    go_ret
    refine ⟨rfl, ?_⟩
    repeat (with_reducible first | exact Below.refl _ _ | assumption | refine below_drewN ?_ _ | refine Below.drew ?_ | refine Below.setCell ?_ (by first | omega | (simp; done) | (simp; omega)) _ | refine Below.alloc ?_ (by first | omega | (simp; done) | (simp; omega)) _ | refine Below.trans ?_ (Below.mono (by assumption) (by first | omega | (simp; done) | (simp; omega))))

set_option maxHeartbeats 4000000 in
theorem walk (m0 : ByteArray) (off n : Nat) (x y z : Int) (hm : m0.size ≤ maxLen) (ho : off < Q256) (hn : n < Q256) (hx : (Lit.int .u64 x).wf = true) (hy : (Lit.int .u64 y).wf = true) (hz : (Lit.int .u64 z).wf = true) (w : World) :
    Calls Try.prog 3 #[.string m0, W4 off, W4 n, .int .u64 x, .int .u64 y, .int .u64 z] w fun e w' => e = .returned (.bool true) ∧ Below w.heap.size w w' := by
  obtain ⟨x, rfl, hx⟩ := nat_of_wf hx
  obtain ⟨y, rfl, hy⟩ := nat_of_wf hy
  obtain ⟨z, rfl, hz⟩ := nat_of_wf hz
  have hmax : maxLen = 9223372036854775807 := rfl
  have hM : M64 = 18446744073709551616 := rfl
  have h1 : (m0.extract 0 (min m0.size 10000)).size = min m0.size 10000 := by rw [ByteArray.size_extract]; omega
  have h2 : (m0.extract 0 (min m0.size 10000)).size ≤ 10000 := by omega
  have cC := fun W => cut_any m0 W
  generalize m0.extract 0 (min m0.size 10000) = m1 at *
  clear h1
  have h3 : (m1.extract 0 (m1.size / 32 * 32)).size = m1.size / 32 * 32 := by rw [ByteArray.size_extract]; omega
  have h4 : ((m1.size : Int) / 32 * 32).toNat = m1.size / 32 * 32 := by omega
  generalize hm2 : m1.extract 0 (m1.size / 32 * 32) = m at h3
  have cN := fun W => Need_any m off n (by omega) ho hn W
  have hy32 : (needM m off n).size % 32 = 0 ∧ m.size ≤ (needM m off n).size ∧ (needM m off n).size ≤ 100000 := by
    by_cases h : n ≠ 0 ∧ off + n ≤ 65536 ∧ m.size < needE off n
    · have := needE_le h.2.1
      rw [needM_size h]
      refine ⟨?_, by omega, by omega⟩
      unfold needE
      omega
    · rw [needM_same h]
      omega
  obtain ⟨g1, g2, g3⟩ := hy32
  have hle := costF_mono g2
  have hlt := costF_le g3
  have hsz : ∀ a b, (sliceS m a b).size ≤ 10000 := fun a b => by
    unfold sliceS
    split
    · rw [ByteArray.size_extract]; omega
    · exact Nat.zero_le _
  have c1 := fun W => Slice_any m (x % 10001) (y % 10001 + z % 10001) (by omega) (by omega) (by omega) W
  have c3 := fun W => Slice_any m (x % 10001 + y % 10001) (z % 10001) (by omega) (by omega) (by omega) W
  rw [Int.natCast_add] at c1 c3
  refine walk0 m0 m1 m (needM m off n) (sliceS m (x % 10001) (y % 10001)) (sliceS m (x % 10001 + y % 10001) (z % 10001)) (sliceS m (x % 10001) (y % 10001 + z % 10001)) off n (costF (needM m off n).size - costF m.size) (costF (needM m off n).size) (costF m.size) x y z (x % 10001) (y % 10001) (z % 10001)
    (sliceE m (x % 10001) (y % 10001 + z % 10001)) (sliceE m (x % 10001) (y % 10001)) (sliceE m (x % 10001 + y % 10001) (z % 10001)) (needB off n)
    shown_any cC cN (fun W => Cost_any _ g3 W) (fun W => Cost_any _ (by omega) W) c1 (fun W => Slice_any m _ _ (by omega) (by omega) (by omega) W) c3 h2 (by rw [h4]; exact hm2) (by omega) (by omega) hle hlt (by omega) (by omega) (by omega)
    (by omega) (by omega) (by omega) (Nat.le_trans (Nat.add_le_add (hsz _ _) (hsz _ _)) (by decide)) ?_ w
  by_cases h : x % 10001 + (y % 10001 + z % 10001) ≤ m.size
  · right
    unfold sliceE sliceS
    rw [if_pos h, if_pos h, if_pos (show x % 10001 + y % 10001 ≤ m.size by omega), if_pos (show x % 10001 + y % 10001 ≤ m.size by omega), if_pos (show x % 10001 + y % 10001 + z % 10001 ≤ m.size by omega), if_pos (show x % 10001 + y % 10001 + z % 10001 ≤ m.size by omega)]
    refine ⟨rfl, rfl, rfl, ?_⟩
    rw [ByteArray.extract_append_extract, Nat.min_eq_left (by omega), Nat.max_eq_right (by omega), Nat.add_assoc]
  · left
    unfold sliceE
    rw [if_neg h]

set_option maxRecDepth 100000 in
theorem lifted (os : Os) (started : os.Started) (H : Type) (enc : TypeId × Value → H) :
    ReturnsInHanded {} Try.checked os 3 .any (Rows.memoSumsSpec.pre6 enc Try.prog Try.f3 Rows.memoSumsRow.domain false) (Rows.memoSumsSpec.post enc Try.prog Try.f3 false true false false) := by
  refine returnsInHanded_of_change (C := Try.checked) own started (by kernel_rfl) Try.func3
    (ChangeSpec.witness6 (enc := enc) (C := Try.checked) false ⟨#[], #[.string ⟨#[]⟩, .agg #[.int .u64 0, .int .u64 0, .int .u64 0, .int .u64 0], .agg #[.int .u64 0, .int .u64 0, .int .u64 0, .int .u64 0], .int .u64 0, .int .u64 0, .int .u64 0], []⟩ 8 (by kernel_rfl) (by kernel_rfl) (by kernel_rfl) (by kernel_rfl)) ?_
  intro W base args ds gs before hval0 hW hcnd _
  have hval : ∀ (j : Nat) t v, Try.f3.params[j]? = some t → args[j]? = some v → Value.okWide Try.prog W .any base t v := hval0
  have hW' := hW
  obtain ⟨p, q, hA0, hV, rfl, hfz, hnd⟩ := hW
  have hA : DataW.TrodAll enc Try.prog W 0 (fun _ => true) true Try.f3.params.toList args.toList ds p := hA0
  rw [Try.params3] at hA hval
  obtain ⟨v0, vs0, d0, ds0, p0, q0, hargs, rfl, rfl, h0, r0⟩ := trodAll_cons hA
  obtain ⟨v1, vs1, d1, ds1, p1, q1, rfl, rfl, rfl, h1, r1⟩ := trodAll_cons r0
  obtain ⟨v2, vs2, d2, ds2, p2, q2, rfl, rfl, rfl, h2, r2⟩ := trodAll_cons r1
  obtain ⟨v3, vs3, d3, ds3, p3, q3, rfl, rfl, rfl, h3, r3⟩ := trodAll_cons r2
  obtain ⟨v4, vs4, d4, ds4, p4, q4, rfl, rfl, rfl, h4, r4⟩ := trodAll_cons r3
  obtain ⟨v5, vs5, d5, ds5, p5, q5, rfl, rfl, rfl, h5, r5⟩ := trodAll_cons r4
  obtain ⟨rfl, rfl, rfl⟩ := trodAll_nil r5
  obtain rfl : args = #[v0, v1, v2, v3, v4, v5] := by cases args; simp_all
  obtain ⟨rfl, rfl⟩ := trodVars_none hV
  have k0 := h0
  have lt0 : ∀ x ∈ p0, x.block < W.heap.size := by obtain ⟨m, hm⟩ := k0; exact DataW.trod_lt m _ _ _ hm
  obtain ⟨a0, rfl, _, _, w0⟩ := open_string Try.underlying9 (hval 0 9 v0 rfl rfl) h0
  have k1 := h1
  have lt1 : ∀ x ∈ p1, x.block < W.heap.size := by obtain ⟨m, hm⟩ := k1; exact DataW.trod_lt m _ _ _ hm
  obtain ⟨a1, w1, rfl⟩ := open_word (hval 1 24 v1 rfl rfl) h1
  have k2 := h2
  have lt2 : ∀ x ∈ p2, x.block < W.heap.size := by obtain ⟨m, hm⟩ := k2; exact DataW.trod_lt m _ _ _ hm
  obtain ⟨a2, w2, rfl⟩ := open_word (hval 2 24 v2 rfl rfl) h2
  have k3 := h3
  have lt3 : ∀ x ∈ p3, x.block < W.heap.size := by obtain ⟨m, hm⟩ := k3; exact DataW.trod_lt m _ _ _ hm
  obtain ⟨a3, rfl, _, _, w3⟩ := open_int Try.underlying22 (hval 3 22 v3 rfl rfl) h3
  have k4 := h4
  have lt4 : ∀ x ∈ p4, x.block < W.heap.size := by obtain ⟨m, hm⟩ := k4; exact DataW.trod_lt m _ _ _ hm
  obtain ⟨a4, rfl, _, _, w4⟩ := open_int Try.underlying22 (hval 4 22 v4 rfl rfl) h4
  have k5 := h5
  have lt5 : ∀ x ∈ p5, x.block < W.heap.size := by obtain ⟨m, hm⟩ := k5; exact DataW.trod_lt m _ _ _ hm
  obtain ⟨a5, rfl, _, _, w5⟩ := open_int Try.underlying22 (hval 5 22 v5 rfl rfl) h5
  clear hA0 hval0
  refine (walk a0 a1 a2 a3 a4 a5 w0 w1 w2 w3 w4 w5 W).mono fun e W' ⟨he, bel⟩ => ?_
  subst he
  exact ⟨_, rfl, _, _, _, [], _, [], hW', trodAll_mk1 (shut_bool Try.underlying4 _), (trodAll_cons_mk (Below.trod laidOut (by kernel_rfl) (of_decide_eq_true (by kernel_rfl)) k0 bel lt0) (trodAll_cons_mk (Below.trod laidOut (by kernel_rfl) (of_decide_eq_true (by kernel_rfl)) k1 bel lt1) (trodAll_cons_mk (Below.trod laidOut (by kernel_rfl) (of_decide_eq_true (by kernel_rfl)) k2 bel lt2) (trodAll_cons_mk (Below.trod laidOut (by kernel_rfl) (of_decide_eq_true (by kernel_rfl)) k3 bel lt3) (trodAll_cons_mk (Below.trod laidOut (by kernel_rfl) (of_decide_eq_true (by kernel_rfl)) k4 bel lt4) (trodAll_cons_mk (Below.trod laidOut (by kernel_rfl) (of_decide_eq_true (by kernel_rfl)) k5 bel lt5) trodAll_mk0)))))), rfl, bel.frame _, fun h => by cases h⟩

theorem over : Rows.memoSumsRow.holds Try.pinned (OpenSpec.ofChange Rows.memoSumsSpec) :=
  OpenClaim.holds_of_wide 3 Try.f3 rfl rfl rfl rfl rfl rfl rfl ⟨rfl, rfl, rfl, rfl, rfl⟩ rfl rfl rfl rfl rfl (by kernel_rfl) Try.func3 (by kernel_rfl)
    (of_decide_eq_true (by kernel_rfl)) (by unfold Func.isWrapper; first | (rw [if_pos (by decide +kernel)]; kernel_rfl) | (rw [if_neg (by decide +kernel)]; exact ⟨rfl, rfl⟩))
    (fun os started H enc _ => lifted os started H enc)

theorem proved : Rows.MemoSumsSaid := over
end Go.Proofs.Ytbgeenkkdfbngaa.MemoSumsDone
