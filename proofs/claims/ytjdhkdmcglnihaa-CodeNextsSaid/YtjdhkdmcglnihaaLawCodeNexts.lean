/-
  What is next is behind the operation and its data; no operation takes or puts more than seventeen: pharoslaw17.CodeNexts returns true at every input. Conditions: none.
-/
import Derived.Test.YtjdhkdmcglnihaaCShown
import Derived.Test.YtjdhkdmcglnihaaCOfB
import Derived.Test.YtjdhkdmcglnihaaOpen
namespace Go.Proofs.Ytjdhkdmcglnihaa.CodeNextsDone
open Go.ChangeShapes Go.WideShapes Go.ChangeAt Go.RowKit Go.Proofs.Ytjdhkdmcglnihaa
open Go.ChangeMaps (open_string shut_string)
attribute [local go_sem] leftBy
set_option linter.unusedSimpArgs false
set_option linter.unusedVariables false


theorem info_le : ∀ b, b < 256 → (infoF b).1.1 ≤ 17 ∧ (infoF b).1.2.1 ≤ 17 ∧ (infoF b).1.2.2 ≤ 1875 ∧ ((infoF b).2 = false → (infoF b).1.1 = 0 ∧ (infoF b).1.2.1 = 0) := by decide +kernel

set_option maxHeartbeats 4000000 in
theorem walk_far (s : ByteArray) (pc : Int) (h : pc < 0 ∨ 1099511627776 < pc) (w : World) :
    Calls Try.prog 7 #[.string s, .int .i64 pc] w fun e w' => e = .returned (.bool true) ∧ Below w.heap.size w w' := by
  rcases h with h | h
  · go_enter Try.func7, Try.ntmps7
    go_wp2_with (go_at_call 8; (with_reducible refine (shown_any _).mono ?_); rintro e wa ⟨rfl, hb_wa⟩)
    go_ret
    refine ⟨rfl, ?_⟩
    repeat (with_reducible first | exact Below.refl _ _ | assumption | refine below_drewN ?_ _ | refine Below.drew ?_ | refine Below.setCell ?_ (by first | omega | (simp; done) | (simp; omega)) _ | refine Below.alloc ?_ (by first | omega | (simp; done) | (simp; omega)) _ | refine Below.trans ?_ (Below.mono (by assumption) (by first | omega | (simp; done) | (simp; omega))))
  · have h0 : ¬ pc < 0 := by omega
    go_enter Try.func7, Try.ntmps7
    go_wp2_with (go_at_call 8; (with_reducible refine (shown_any _).mono ?_); rintro e wa ⟨rfl, hb_wa⟩)
    go_ret
    refine ⟨rfl, ?_⟩
    repeat (with_reducible first | exact Below.refl _ _ | assumption | refine below_drewN ?_ _ | refine Below.drew ?_ | refine Below.setCell ?_ (by first | omega | (simp; done) | (simp; omega)) _ | refine Below.alloc ?_ (by first | omega | (simp; done) | (simp; omega)) _ | refine Below.trans ?_ (Below.mono (by assumption) (by first | omega | (simp; done) | (simp; omega))))

set_option maxRecDepth 100000 in
set_option maxHeartbeats 8000000 in
theorem walk0 (s D : ByteArray) (k b : Nat) (hk : k ≤ 1099511627776) (hb : b < 256) (hD : D.size ≤ 32) (hs : s.size ≤ k ∨ (k < s.size ∧ byteD s k = b))
    (c1 : ∀ W, Calls Try.prog 9 #[.string s, .int .i64 (k : Nat)] W fun e w' => e = .returned (.tuple #[.int .u8 (b : Nat), .string D, .int .i64 ((k : Int) + 1 + (D.size : Int))]) ∧ Below W.heap.size W w') (w : World) :
    Calls Try.prog 7 #[.string s, .int .i64 (k : Nat)] w fun e w' => e = .returned (.bool true) ∧ Below w.heap.size w w' := by
  have c2 := fun W => Info_any b hb W
  obtain ⟨q1, q2, q3, q4⟩ := info_le b hb
  generalize infoF b = A at *
  obtain ⟨⟨a1, a2, a3⟩, x⟩ := A
  unfold infoV at c2
  dsimp only at c2 q1 q2 q3 q4
  have f1 : ¬ (17 : Int) < (a1 : Int) := by omega
  have f2 : ¬ (17 : Int) < (a2 : Int) := by omega
  have f3 : ¬ (1875 : Int) < (a3 : Int) := by omega
  have f4 : ¬ (a1 : Int) < 0 := by omega
  have f5 : ¬ (a2 : Int) < 0 := by omega
  have f6 : ¬ (k : Int) < 0 := by omega
  have f7 : ¬ (1099511627776 : Int) < (k : Int) := by omega
  have f8 : (D.size : Int) ≤ 32 := by omega
  have n1 : ¬ 17 < a1 := by omega
  have n2 : ¬ 17 < a2 := by omega
  have n3 : ¬ 1875 < a3 := by omega
  cases x with
  | true =>
    clear q4
    rcases hs with hs | ⟨hs, hbb⟩
    · have g1 : (s.size : Int) ≤ (k : Int) := by omega
      go_enter Try.func7, Try.ntmps7
      go_wp2_with (first | (go_at_call 8; (with_reducible refine (shown_any _).mono ?_); rintro e wa ⟨rfl, hb_wa⟩; have hc_wa := (bcell hb_wa).1; have hf_wa := (bcell hb_wa).2; have hz_wa : _ ≤ wa.heap.size := hb_wa.size; (try simp only [World.size_alloc, World.heap_drewN, World.size_setCell, heap_drew] at hc_wa hf_wa hz_wa)) | (go_at_call 9; (with_reducible refine (c1 _).mono ?_); rintro e wb ⟨rfl, hb_wb⟩; have hc_wb := (bcell hb_wb).1; have hf_wb := (bcell hb_wb).2; have hz_wb : _ ≤ wb.heap.size := hb_wb.size; (try simp only [World.size_alloc, World.heap_drewN, World.size_setCell, heap_drew] at hc_wb hf_wb hz_wb)) | (go_at_call 14; (with_reducible refine (c2 _).mono ?_); rintro e wc ⟨rfl, hb_wc⟩; have hc_wc := (bcell hb_wc).1; have hf_wc := (bcell hb_wc).2; have hz_wc : _ ≤ wc.heap.size := hb_wc.size; (try simp only [World.size_alloc, World.heap_drewN, World.size_setCell, heap_drew] at hc_wc hf_wc hz_wc)))
      go_ret
      refine ⟨rfl, ?_⟩
      repeat (with_reducible first | exact Below.refl _ _ | assumption | refine below_drewN ?_ _ | refine Below.drew ?_ | refine Below.setCell ?_ (by first | omega | (simp; done) | (simp; omega)) _ | refine Below.alloc ?_ (by first | omega | (simp; done) | (simp; omega)) _ | refine Below.trans ?_ (Below.mono (by assumption) (by first | omega | (simp; done) | (simp; omega))))
    · have g1 : ¬ (s.size : Int) ≤ (k : Int) := by omega
      have g2 : (k : Int) < (s.size : Int) := by omega
      have hix := fun W => index_d s k hs W
      rw [hbb] at hix
      go_enter Try.func7, Try.ntmps7
      go_wp2_with (first | (go_at_call 8; (with_reducible refine (shown_any _).mono ?_); rintro e wa ⟨rfl, hb_wa⟩; have hc_wa := (bcell hb_wa).1; have hf_wa := (bcell hb_wa).2; have hz_wa : _ ≤ wa.heap.size := hb_wa.size; (try simp only [World.size_alloc, World.heap_drewN, World.size_setCell, heap_drew] at hc_wa hf_wa hz_wa)) | (go_at_call 9; (with_reducible refine (c1 _).mono ?_); rintro e wb ⟨rfl, hb_wb⟩; have hc_wb := (bcell hb_wb).1; have hf_wb := (bcell hb_wb).2; have hz_wb : _ ≤ wb.heap.size := hb_wb.size; (try simp only [World.size_alloc, World.heap_drewN, World.size_setCell, heap_drew] at hc_wb hf_wb hz_wb)) | (go_at_call 14; (with_reducible refine (c2 _).mono ?_); rintro e wc ⟨rfl, hb_wc⟩; have hc_wc := (bcell hb_wc).1; have hf_wc := (bcell hb_wc).2; have hz_wc : _ ≤ wc.heap.size := hb_wc.size; (try simp only [World.size_alloc, World.heap_drewN, World.size_setCell, heap_drew] at hc_wc hf_wc hz_wc)))
      go_ret
      refine ⟨rfl, ?_⟩
      repeat (with_reducible first | exact Below.refl _ _ | assumption | refine below_drewN ?_ _ | refine Below.drew ?_ | refine Below.setCell ?_ (by first | omega | (simp; done) | (simp; omega)) _ | refine Below.alloc ?_ (by first | omega | (simp; done) | (simp; omega)) _ | refine Below.trans ?_ (Below.mono (by assumption) (by first | omega | (simp; done) | (simp; omega))))
  | false =>
    obtain ⟨rfl, rfl⟩ := q4 rfl
    rcases hs with hs | ⟨hs, hbb⟩
    · have g1 : (s.size : Int) ≤ (k : Int) := by omega
      go_enter Try.func7, Try.ntmps7
      go_wp2_with (first | (go_at_call 8; (with_reducible refine (shown_any _).mono ?_); rintro e wa ⟨rfl, hb_wa⟩; have hc_wa := (bcell hb_wa).1; have hf_wa := (bcell hb_wa).2; have hz_wa : _ ≤ wa.heap.size := hb_wa.size; (try simp only [World.size_alloc, World.heap_drewN, World.size_setCell, heap_drew] at hc_wa hf_wa hz_wa)) | (go_at_call 9; (with_reducible refine (c1 _).mono ?_); rintro e wb ⟨rfl, hb_wb⟩; have hc_wb := (bcell hb_wb).1; have hf_wb := (bcell hb_wb).2; have hz_wb : _ ≤ wb.heap.size := hb_wb.size; (try simp only [World.size_alloc, World.heap_drewN, World.size_setCell, heap_drew] at hc_wb hf_wb hz_wb)) | (go_at_call 14; (with_reducible refine (c2 _).mono ?_); rintro e wc ⟨rfl, hb_wc⟩; have hc_wc := (bcell hb_wc).1; have hf_wc := (bcell hb_wc).2; have hz_wc : _ ≤ wc.heap.size := hb_wc.size; (try simp only [World.size_alloc, World.heap_drewN, World.size_setCell, heap_drew] at hc_wc hf_wc hz_wc)))
      go_ret
      refine ⟨rfl, ?_⟩
      repeat (with_reducible first | exact Below.refl _ _ | assumption | refine below_drewN ?_ _ | refine Below.drew ?_ | refine Below.setCell ?_ (by first | omega | (simp; done) | (simp; omega)) _ | refine Below.alloc ?_ (by first | omega | (simp; done) | (simp; omega)) _ | refine Below.trans ?_ (Below.mono (by assumption) (by first | omega | (simp; done) | (simp; omega))))
    · have g1 : ¬ (s.size : Int) ≤ (k : Int) := by omega
      have g2 : (k : Int) < (s.size : Int) := by omega
      have hix := fun W => index_d s k hs W
      rw [hbb] at hix
      go_enter Try.func7, Try.ntmps7
      go_wp2_with (first | (go_at_call 8; (with_reducible refine (shown_any _).mono ?_); rintro e wa ⟨rfl, hb_wa⟩; have hc_wa := (bcell hb_wa).1; have hf_wa := (bcell hb_wa).2; have hz_wa : _ ≤ wa.heap.size := hb_wa.size; (try simp only [World.size_alloc, World.heap_drewN, World.size_setCell, heap_drew] at hc_wa hf_wa hz_wa)) | (go_at_call 9; (with_reducible refine (c1 _).mono ?_); rintro e wb ⟨rfl, hb_wb⟩; have hc_wb := (bcell hb_wb).1; have hf_wb := (bcell hb_wb).2; have hz_wb : _ ≤ wb.heap.size := hb_wb.size; (try simp only [World.size_alloc, World.heap_drewN, World.size_setCell, heap_drew] at hc_wb hf_wb hz_wb)) | (go_at_call 14; (with_reducible refine (c2 _).mono ?_); rintro e wc ⟨rfl, hb_wc⟩; have hc_wc := (bcell hb_wc).1; have hf_wc := (bcell hb_wc).2; have hz_wc : _ ≤ wc.heap.size := hb_wc.size; (try simp only [World.size_alloc, World.heap_drewN, World.size_setCell, heap_drew] at hc_wc hf_wc hz_wc)))
      go_ret
      refine ⟨rfl, ?_⟩
      repeat (with_reducible first | exact Below.refl _ _ | assumption | refine below_drewN ?_ _ | refine Below.drew ?_ | refine Below.setCell ?_ (by first | omega | (simp; done) | (simp; omega)) _ | refine Below.alloc ?_ (by first | omega | (simp; done) | (simp; omega)) _ | refine Below.trans ?_ (Below.mono (by assumption) (by first | omega | (simp; done) | (simp; omega))))

theorem walk (s : ByteArray) (pc : Int) (hs : s.size ≤ maxLen) (hp : (Lit.int .i64 pc).wf = true) (w : World) :
    Calls Try.prog 7 #[.string s, .int .i64 pc] w fun e w' => e = .returned (.bool true) ∧ Below w.heap.size w w' := by
  by_cases h : pc < 0 ∨ 1099511627776 < pc
  · exact walk_far s pc h w
  · obtain ⟨k, rfl⟩ : ∃ k : Nat, pc = (k : Int) := ⟨pc.toNat, by omega⟩
    have hk : k ≤ 1099511627776 := by omega
    by_cases hl : k < s.size
    · have hz := dataS_size s k (nD (byteD s k))
      have hn := nD_le (byteD s k)
      refine walk0 s (dataS s k (nD (byteD s k))) k (byteD s k) hk (byteD_lt _ _) (by omega) (.inr ⟨hl, rfl⟩) (fun W => ?_) w
      have h1 := At_in s k hl (by omega) hs W
      rw [hz]
      rw [show ((k + 1 + nD (byteD s k) : Nat) : Int) = (k : Int) + 1 + ((nD (byteD s k) : Nat) : Int) by omega] at h1
      exact h1
    · refine walk0 s ⟨#[]⟩ k 0 hk (by omega) (by show 0 ≤ _; omega) (.inl (by omega)) (fun W => ?_) w
      have h1 := At_far s k (by omega) (by omega) W
      exact h1

set_option maxRecDepth 100000 in
theorem lifted (os : Os) (started : os.Started) (H : Type) (enc : TypeId × Value → H) :
    ReturnsInHanded {} Try.checked os 7 .any (Rows.codeNextsSpec.pre6 enc Try.prog Try.f7 Rows.codeNextsRow.domain false) (Rows.codeNextsSpec.post enc Try.prog Try.f7 false true false false) := by
  refine returnsInHanded_of_change (C := Try.checked) own started (by kernel_rfl) Try.func7
    (ChangeSpec.witness6 (enc := enc) (C := Try.checked) false ⟨#[], #[.string ⟨#[]⟩, .int .i64 0], []⟩ 8 (by kernel_rfl) (by kernel_rfl) (by kernel_rfl) (by kernel_rfl)) ?_
  intro W base args ds gs before hval0 hW hcnd _
  have hval : ∀ (j : Nat) t v, Try.f7.params[j]? = some t → args[j]? = some v → Value.okWide Try.prog W .any base t v := hval0
  have hW' := hW
  obtain ⟨p, q, hA0, hV, rfl, hfz, hnd⟩ := hW
  have hA : DataW.TrodAll enc Try.prog W 0 (fun _ => true) true Try.f7.params.toList args.toList ds p := hA0
  rw [Try.params7] at hA hval
  obtain ⟨v0, vs0, d0, ds0, p0, q0, hargs, rfl, rfl, h0, r0⟩ := trodAll_cons hA
  obtain ⟨v1, vs1, d1, ds1, p1, q1, rfl, rfl, rfl, h1, r1⟩ := trodAll_cons r0
  obtain ⟨rfl, rfl, rfl⟩ := trodAll_nil r1
  obtain rfl : args = #[v0, v1] := by cases args; simp_all
  obtain ⟨rfl, rfl⟩ := trodVars_none hV
  have k0 := h0
  have lt0 : ∀ x ∈ p0, x.block < W.heap.size := by obtain ⟨m, hm⟩ := k0; exact DataW.trod_lt m _ _ _ hm
  obtain ⟨a0, rfl, _, _, w0⟩ := open_string Try.underlying9 (hval 0 9 v0 rfl rfl) h0
  have k1 := h1
  have lt1 : ∀ x ∈ p1, x.block < W.heap.size := by obtain ⟨m, hm⟩ := k1; exact DataW.trod_lt m _ _ _ hm
  obtain ⟨a1, rfl, _, _, w1⟩ := open_int Try.underlying3 (hval 1 3 v1 rfl rfl) h1
  clear hA0 hval0
  refine (walk a0 a1 w0 w1 W).mono fun e W' ⟨he, bel⟩ => ?_
  subst he
  exact ⟨_, rfl, _, _, _, [], _, [], hW', trodAll_mk1 (shut_bool Try.underlying4 _), (trodAll_cons_mk (Below.trod laidOut (by kernel_rfl) (of_decide_eq_true (by kernel_rfl)) k0 bel lt0) (trodAll_cons_mk (Below.trod laidOut (by kernel_rfl) (of_decide_eq_true (by kernel_rfl)) k1 bel lt1) trodAll_mk0)), rfl, bel.frame _, fun h => by cases h⟩

theorem over : Rows.codeNextsRow.holds Try.pinned (OpenSpec.ofChange Rows.codeNextsSpec) :=
  OpenClaim.holds_of_wide 7 Try.f7 rfl rfl rfl rfl rfl rfl rfl ⟨rfl, rfl, rfl, rfl, rfl⟩ rfl rfl rfl rfl rfl (by kernel_rfl) Try.func7 (by kernel_rfl)
    (of_decide_eq_true (by kernel_rfl)) (by unfold Func.isWrapper; first | (rw [if_pos (by decide +kernel)]; kernel_rfl) | (rw [if_neg (by decide +kernel)]; exact ⟨rfl, rfl⟩))
    (fun os started H enc _ => lifted os started H enc)

theorem proved : Rows.CodeNextsSaid := over
end Go.Proofs.Ytjdhkdmcglnihaa.CodeNextsDone
