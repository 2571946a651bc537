/-
  The places that may be jumped to: pharoslaw17.CodeJumps returns true. Conditions: what it reads is of bulk at most 1048576.
-/
import Derived.Test.YtjdhkdmcglnihaaCShown
import Derived.Test.YtjdhkdmcglnihaaOpen
import Derived.JoinedCond
namespace Go.Proofs.Ytjdhkdmcglnihaa.CodeJumpsDone
open Go.ChangeShapes Go.WideShapes Go.ChangeAt Go.RowKit Go.Proofs.Ytjdhkdmcglnihaa
open Go.ChangeMaps (open_string shut_string)
attribute [local go_sem] leftBy
set_option linter.unusedSimpArgs false
set_option linter.unusedVariables false


theorem jumps_le (s : ByteArray) : (jumpsN s).length ≤ s.size := Nat.le_trans (jmp_length _ _) (opsN_length s s.size 0)

set_option maxHeartbeats 4000000 in
theorem walk (s : ByteArray) (hs : s.size ≤ 1048576) (w : World) :
    Calls Try.prog 4 #[.string s] w fun e w' => e = .returned (.bool true) ∧ Below w.heap.size w w' := by
  have c1 := fun W => Jumps_any s (by omega) W
  have c2 := fun W => RJumps_any s (by omega) W
  have hl := jumps_le s
  unfold JumpsR at c1 c2
  go_enter Try.func4, Try.ntmps4
  go_wp2_with (first | (go_at_call 8; (with_reducible refine (shown_any _).mono ?_); rintro e wa ⟨rfl, hb_wa⟩; have hza := hb_wa.size) | (go_at_call 12; (with_reducible refine (c1 _).mono ?_); rintro e wb ⟨v, rfl, hrow, hb_wb⟩; have hl1 := isL_of hrow; have hzb := hb_wb.size; clear hrow) | (go_at_call 13; (with_reducible refine (c2 _).mono ?_); rintro e wc ⟨u, rfl, hrow, hb_wc⟩; have hl2 := isL_of hrow; have hl3 := hl1.below hb_wc (Nat.le_refl _); have hzc := hb_wc.size; clear hrow) | (go_at_call 11; (with_reducible refine (Same_any (by omega) hl3 hl2).mono ?_); rintro e wd ⟨rfl, hb_wd⟩))
  go_ret
  refine ⟨rfl, ?_⟩
  repeat (with_reducible first | exact Below.refl _ _ | assumption | refine below_drewN ?_ _ | refine Below.drew ?_ | refine Below.setCell ?_ (by first | omega | (simp; done) | (simp; omega)) _ | refine Below.alloc ?_ (by first | omega | (simp; done) | (simp; omega)) _ | refine Below.trans ?_ (Below.mono (by assumption) (by first | omega | (simp; done) | (simp; omega))))

set_option maxRecDepth 100000 in
theorem lifted (os : Os) (started : os.Started) (H : Type) (enc : TypeId × Value → H) (F : Stop.Interp) :
    ReturnsInHanded {} Try.checked os 4 .any ((Rows.OpenSpec.upto Rows.codeJumpsSpec).pre6 enc Try.prog Try.f4 Rows.codeJumpsUptoRow.domain false) (((Rows.OpenSpec.upto Rows.codeJumpsSpec).at F).post enc Try.prog Try.f4 false true false false) := by
  refine returnsInHanded_of_cond (C := Try.checked) (s := Rows.OpenSpec.upto Rows.codeJumpsSpec) (k := Rows.uptoSmall) rfl own started (by kernel_rfl) Try.func4
    (OpenSpec.witness (enc := enc) (C := Try.checked) (s := Rows.OpenSpec.upto Rows.codeJumpsSpec) (k := Rows.uptoSmall) rfl false ⟨#[], #[.string ⟨#[]⟩], []⟩ 8 (by kernel_rfl) (by kernel_rfl) (by kernel_rfl) (x := ([.lit (.string [])], [], [])) (by kernel_rfl) rfl (by kernel_rfl)) ?_
  intro W base args ds gs before hval0 hW _ hk _
  have hval : ∀ (j : Nat) t v, Try.f4.params[j]? = some t → args[j]? = some v → Value.okWide Try.prog W .any base t v := hval0
  have hW' := hW
  obtain ⟨p, q, hA0, hV, rfl, hfz, hnd⟩ := hW
  have hA : DataW.TrodAll enc Try.prog W 0 (fun _ => true) true Try.f4.params.toList args.toList ds p := hA0
  rw [Try.params4] at hA hval
  obtain ⟨v0, vs0, d0, ds0, p0, q0, hargs, rfl, rfl, h0, r0⟩ := trodAll_cons hA
  obtain ⟨rfl, rfl, rfl⟩ := trodAll_nil r0
  obtain rfl : args = #[v0] := by cases args; simp_all
  obtain ⟨rfl, rfl⟩ := trodVars_none hV
  have k0 := h0
  have lt0 : ∀ x ∈ p0, x.block < W.heap.size := by obtain ⟨m, hm⟩ := k0; exact DataW.trod_lt m _ _ _ hm
  obtain ⟨a0, rfl, hd0, _, w0⟩ := open_string Try.underlying9 (hval 0 9 v0 rfl rfl) h0
  clear hA0 hval0
  have hk2 : Rows.uptoBulkAll ([d0] ++ []) ≤ 1048576 := of_decide_eq_true hk
  rw [hd0] at hk2
  simp only [List.cons_append, List.nil_append, List.append_nil, Rows.uptoBulkAll, Rows.uptoBulk] at hk2
  have e0 : a0.data.toList.length = a0.size := by rw [Array.length_toList]; rfl
  have u0 : a0.size ≤ 1048576 := by omega
  refine (walk a0 u0 W).mono fun e W' ⟨he, bel⟩ => ?_
  subst he
  exact ⟨_, rfl, _, _, _, [], _, [], hW', trodAll_mk1 (shut_bool Try.underlying4 _), (trodAll_cons_mk (Below.trod laidOut (by kernel_rfl) (of_decide_eq_true (by kernel_rfl)) k0 bel lt0) trodAll_mk0), rfl, bel.frame _, fun h => by cases h⟩

theorem over : Rows.codeJumpsUptoRow.holds Try.pinned (Rows.OpenSpec.upto Rows.codeJumpsSpec) :=
  OpenClaim.holds_of_cond 4 Try.f4 rfl rfl rfl rfl rfl rfl rfl ⟨rfl, rfl, rfl, rfl, rfl⟩ rfl rfl rfl rfl rfl (by kernel_rfl) Try.func4 (by kernel_rfl)
    (of_decide_eq_true (by kernel_rfl)) (by unfold Func.isWrapper; first | (rw [if_pos (by decide +kernel)]; kernel_rfl) | (rw [if_neg (by decide +kernel)]; exact ⟨rfl, rfl⟩))
    (fun os started H enc _ F => lifted os started H enc F)

theorem proved : Rows.CodeJumpsUptoSaid := over
end Go.Proofs.Ytjdhkdmcglnihaa.CodeJumpsDone
