/-
  The operation at a place, its data, what is next: pharoslaw17.CodeAt returns true at every input. Conditions: none.
-/
import Derived.Test.YtjdhkdmcglnihaaCShown
import Derived.Test.YtjdhkdmcglnihaaOpen
namespace Go.Proofs.Ytjdhkdmcglnihaa.CodeAtDone
open Go.ChangeShapes Go.WideShapes Go.ChangeAt Go.RowKit Go.Proofs.Ytjdhkdmcglnihaa
open Go.ChangeMaps (open_string shut_string)
attribute [local go_sem] leftBy
set_option linter.unusedSimpArgs false
set_option linter.unusedVariables false


set_option maxHeartbeats 4000000 in
theorem walk_far (s : ByteArray) (pc : Int) (h : 4611686018427387904 < pc) (w : World) :
    Calls Try.prog 3 #[.string s, .int .i64 pc] w fun e w' => e = .returned (.bool true) ∧ Below w.heap.size w w' := by
  go_enter Try.func3, Try.ntmps3
  go_wp2_with (go_at_call 8; (with_reducible refine (shown_any _).mono ?_); rintro e wa ⟨rfl, hb_wa⟩)
  go_ret
  refine ⟨rfl, ?_⟩
  repeat (with_reducible first | exact Below.refl _ _ | assumption | refine below_drewN ?_ _ | refine Below.drew ?_ | refine Below.setCell ?_ (by first | omega | (simp; done) | (simp; omega)) _ | refine Below.alloc ?_ (by first | omega | (simp; done) | (simp; omega)) _ | refine Below.trans ?_ (Below.mono (by assumption) (by first | omega | (simp; done) | (simp; omega))))

set_option maxHeartbeats 4000000 in
theorem walk0 (s D : ByteArray) (pc op q : Int) (h : ¬ 4611686018427387904 < pc)
    (c1 : ∀ W, Calls Try.prog 9 #[.string s, .int .i64 pc] W fun e w' => e = .returned (.tuple #[.int .u8 op, .string D, .int .i64 q]) ∧ Below W.heap.size W w')
    (c2 : ∀ W, Calls Try.prog 10 #[.string s, .int .i64 pc] W fun e w' => e = .returned (.tuple #[.int .u8 op, .string D, .int .i64 q]) ∧ Below W.heap.size W w') (w : World) :
    Calls Try.prog 3 #[.string s, .int .i64 pc] w fun e w' => e = .returned (.bool true) ∧ Below w.heap.size w w' := by
  go_enter Try.func3, Try.ntmps3
  go_wp2_with (first | (go_at_call 8; (with_reducible refine (shown_any _).mono ?_); rintro e wa ⟨rfl, hb_wa⟩; have hc_wa := (bcell hb_wa).1; have hf_wa := (bcell hb_wa).2; have hz_wa : _ ≤ wa.heap.size := hb_wa.size; (try simp only [World.size_alloc, World.heap_drewN, World.size_setCell, heap_drew] at hc_wa hf_wa hz_wa)) | (go_at_call 9; (with_reducible refine (c1 _).mono ?_); rintro e wb ⟨rfl, hb_wb⟩; have hc_wb := (bcell hb_wb).1; have hf_wb := (bcell hb_wb).2; have hz_wb : _ ≤ wb.heap.size := hb_wb.size; (try simp only [World.size_alloc, World.heap_drewN, World.size_setCell, heap_drew] at hc_wb hf_wb hz_wb)) | (go_at_call 10; (with_reducible refine (c2 _).mono ?_); rintro e wc ⟨rfl, hb_wc⟩; have hc_wc := (bcell hb_wc).1; have hf_wc := (bcell hb_wc).2; have hz_wc : _ ≤ wc.heap.size := hb_wc.size; (try simp only [World.size_alloc, World.heap_drewN, World.size_setCell, heap_drew] at hc_wc hf_wc hz_wc)))
  go_ret
  refine ⟨rfl, ?_⟩
  repeat (with_reducible first | exact Below.refl _ _ | assumption | refine below_drewN ?_ _ | refine Below.drew ?_ | refine Below.setCell ?_ (by first | omega | (simp; done) | (simp; omega)) _ | refine Below.alloc ?_ (by first | omega | (simp; done) | (simp; omega)) _ | refine Below.trans ?_ (Below.mono (by assumption) (by first | omega | (simp; done) | (simp; omega))))

theorem walk (s : ByteArray) (pc : Int) (hs : s.size ≤ maxLen) (hp : (Lit.int .i64 pc).wf = true) (w : World) :
    Calls Try.prog 3 #[.string s, .int .i64 pc] w fun e w' => e = .returned (.bool true) ∧ Below w.heap.size w w' := by
  by_cases h : 4611686018427387904 < pc
  · exact walk_far s pc h w
  · by_cases h0 : pc < 0
    · exact walk0 s _ pc _ _ h (fun W => At_neg s pc h0 W) (fun W => RAt_neg s pc h0 W) w
    · obtain ⟨k, rfl⟩ : ∃ k : Nat, pc = (k : Int) := ⟨pc.toNat, by omega⟩
      have hk : k ≤ 4611686018427387904 := by omega
      by_cases hl : k < s.size
      · exact walk0 s _ k _ _ h (fun W => At_in s k hl hk hs W) (fun W => RAt_in s k hl hk hs W) w
      · exact walk0 s _ k _ _ h (fun W => At_far s k (by omega) hk W) (fun W => RAt_far s k (by omega) hk W) w

set_option maxRecDepth 100000 in
theorem lifted (os : Os) (started : os.Started) (H : Type) (enc : TypeId × Value → H) :
    ReturnsInHanded {} Try.checked os 3 .any (Rows.codeAtSpec.pre6 enc Try.prog Try.f3 Rows.codeAtRow.domain false) (Rows.codeAtSpec.post enc Try.prog Try.f3 false true false false) := by
  refine returnsInHanded_of_change (C := Try.checked) own started (by kernel_rfl) Try.func3
    (ChangeSpec.witness6 (enc := enc) (C := Try.checked) false ⟨#[], #[.string ⟨#[]⟩, .int .i64 0], []⟩ 8 (by kernel_rfl) (by kernel_rfl) (by kernel_rfl) (by kernel_rfl)) ?_
  intro W base args ds gs before hval0 hW hcnd _
  have hval : ∀ (j : Nat) t v, Try.f3.params[j]? = some t → args[j]? = some v → Value.okWide Try.prog W .any base t v := hval0
  have hW' := hW
  obtain ⟨p, q, hA0, hV, rfl, hfz, hnd⟩ := hW
  have hA : DataW.TrodAll enc Try.prog W 0 (fun _ => true) true Try.f3.params.toList args.toList ds p := hA0
  rw [Try.params3] at hA hval
  obtain ⟨v0, vs0, d0, ds0, p0, q0, hargs, rfl, rfl, h0, r0⟩ := trodAll_cons hA
  obtain ⟨v1, vs1, d1, ds1, p1, q1, rfl, rfl, rfl, h1, r1⟩ := trodAll_cons r0
  obtain ⟨rfl, rfl, rfl⟩ := trodAll_nil r1
  obtain rfl : args = #[v0, v1] := by cases args; simp_all
  obtain ⟨rfl, rfl⟩ := trodVars_none hV
  have k0 := h0
  have lt0 : ∀ x ∈ p0, x.block < W.heap.size := by obtain ⟨m, hm⟩ := k0; exact DataW.trod_lt m _ _ _ hm
  obtain ⟨a0, rfl, _, _, w0⟩ := open_string Try.underlying9 (hval 0 9 v0 rfl rfl) h0
  have k1 := h1
  have lt1 : ∀ x ∈ p1, x.block < W.heap.size := by obtain ⟨m, hm⟩ := k1; exact DataW.trod_lt m _ _ _ hm
  obtain ⟨a1, rfl, _, _, w1⟩ := open_int Try.underlying3 (hval 1 3 v1 rfl rfl) h1
  clear hA0 hval0
  refine (walk a0 a1 w0 w1 W).mono fun e W' ⟨he, bel⟩ => ?_
  subst he
  exact ⟨_, rfl, _, _, _, [], _, [], hW', trodAll_mk1 (shut_bool Try.underlying4 _), (trodAll_cons_mk (Below.trod laidOut (by kernel_rfl) (of_decide_eq_true (by kernel_rfl)) k0 bel lt0) (trodAll_cons_mk (Below.trod laidOut (by kernel_rfl) (of_decide_eq_true (by kernel_rfl)) k1 bel lt1) trodAll_mk0)), rfl, bel.frame _, fun h => by cases h⟩

theorem over : Rows.codeAtRow.holds Try.pinned (OpenSpec.ofChange Rows.codeAtSpec) :=
  OpenClaim.holds_of_wide 3 Try.f3 rfl rfl rfl rfl rfl rfl rfl ⟨rfl, rfl, rfl, rfl, rfl⟩ rfl rfl rfl rfl rfl (by kernel_rfl) Try.func3 (by kernel_rfl)
    (of_decide_eq_true (by kernel_rfl)) (by unfold Func.isWrapper; first | (rw [if_pos (by decide +kernel)]; kernel_rfl) | (rw [if_neg (by decide +kernel)]; exact ⟨rfl, rfl⟩))
    (fun os started H enc _ => lifted os started H enc)

theorem proved : Rows.CodeAtSaid := over
end Go.Proofs.Ytjdhkdmcglnihaa.CodeAtDone
