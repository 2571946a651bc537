/-
  The contracts of the document's Jumps and Same, and of shown. Conditions: none.
-/
import Derived.Test.YtjdhkdmcglnihaaCJumps
namespace Go.Proofs.Ytjdhkdmcglnihaa
open Go.RowKit Go.Shelf
attribute [local go_sem] leftBy
set_option linter.unusedSimpArgs false
set_option linter.unusedVariables false


theorem ownsRow_below {w W W' : World} {e : TypeId} {size n : Nat} {v : Value} {xs : List Value} {base : Nat} (h : W.ownsRow base e size v n xs) (hb : Below W.heap.size W W') : W'.ownsRow base e size v n xs :=
  h.kept (grown_of_below hb) (by cases v.ownBlock <;> simp)

theorem ownsRow_grown {w W W' : World} {base n size : Nat} {e : TypeId} {v : Value} {xs : List Value} (hown : W.ownsRow base e size v n xs) (hbel : Below w.heap.size w W) (hB : w.heap.size ≤ base) (hg : W.grownBy W' v.ownBlock) : Below w.heap.size w W' := by
  refine hbel.grown hg (by have := hbel.size; omega) fun k hk => ?_
  have := (hown.lt k hk).1
  omega

set_option maxHeartbeats 4000000 in
/-- The document's Jumps. -/
theorem RJumps_any (s : ByteArray) (hs : s.size ≤ 4194304) (w : World) : Calls Try.prog 13 #[.string s] w (JumpsR s w) := by
  obtain ⟨i0, hi, hz0, hz1, hz2⟩ := info_parts infoI
  have hmax : maxLen = 9223372036854775807 := rfl
  go_enter Try.func13, Try.ntmps13
  go_wp2
  go_loopw [3, 4] (fun v i wr => ∃ (f k : Nat) (pre : List Nat), s.size ≤ f + k ∧ k ≤ s.size + 33 ∧ i = .int .i64 k ∧ Hid (opsN s s.size 0 = pre ++ opsN s f k) ∧ wr.ownsRow w.heap.size 3 1 v (jmp s pre).length ((jmp s pre).map natV) ∧ Below w.heap.size w wr)
    (fun _ i _ => s.size - (intOf i).toNat)
  case atStart => exact ⟨s.size, 0, [], by omega, by omega, by go_num, rfl, World.ownsRow_nil _ _ _ _, by first | exact Below.refl _ _ | assumption⟩
  case round =>
    obtain ⟨f, k, pre, hf, hk, rfl, hpre, hrow, hbel⟩ := hrel
    have hbs := hbel.size
    by_cases hks : k < s.size
    · obtain ⟨f, rfl⟩ : ∃ g, f = g + 1 := ⟨f - 1, by omega⟩
      have hki : (k : Int) < (s.size : Int) := by omega
      have hlen : pre.length < s.size := by
        have h1 := congrArg List.length hpre.out
        rw [opsN_more s f k hks] at h1
        simp only [List.length_append, List.length_map, List.length_cons] at h1
        have := opsN_length s s.size 0
        omega
      have hjl := jmp_length s pre
      have hstep : Hid (opsN s s.size 0 = (pre ++ [k]) ++ opsN s f (nxt s k)) := by
        show _ = _
        rw [hpre.out, opsN_more s f k hks]
        simp
      have hnx := nxt_lt s k
      have c1 := fun w => RAt_in s k hks (by omega) (by unfold maxLen; omega) w
      rw [show k + 1 + nD (byteD s k) = nxt s k from rfl] at c1
      generalize dataS s k (nD (byteD s k)) = D at *
      clear hpre
      by_cases hb : byteD s k = 91
      · have hit := Lib.hid (jmp_hit pre hb)
        rw [hb] at c1
        replace hb := Lib.hid hb
        generalize nxt s k = q at *
        generalize hL : jmp s pre = L at *
        replace hL := Lib.hid hL
        go_wp2_with (first | (go_at_call 10; (with_reducible refine (c1 _).mono ?_); rintro e wa ⟨rfl, hb_wa⟩; have hr2 := ownsRow_below (w := w) hrow hb_wa; have hbl2 := hbel.trans (hb_wa.mono hbs); have hbs2 := hbl2.size) | (at_builtin; refine wpList_append_own _ rfl (.tmp 21) (.tmp 23) 27 rfl w.heap.size 3 i0 (.int .i64 0) 1 8 Try.underlying27 hi hz0 hz1 hz2 rfl (by decide) _ _ _ rfl (hr2.alloc _) ⟨wa.heap.size, 0, none⟩ 1 1 [.int .i64 (k : Nat)] rfl rfl (cell_one_new _ _ _) (by simp [Value.oneCell']) (by omega) (by omega) (by first | omega | (simp; omega)) ?_; intro v' w2 hown' hgrow _))
        have hbel2 := ownsRow_grown (w := w) (hr2.alloc _) (hbl2.alloc (by omega) _) (Nat.le_refl _) hgrow
        clear hgrow
        go_wp2
        go_roundw
        case rel =>
          refine ⟨f, q, pre ++ [k], by omega, by omega, rfl, hstep, ?_, hbel2⟩
          rw [hit.out, List.length_append, List.map_append]
          exact hown'
        case measure => simp [intOf]; omega
      · have hit := Lib.hid (jmp_miss pre hb)
        have hbz : (((byteD s k : Nat) : Int) == 91) = false := by simp; omega
        generalize nxt s k = q at *
        generalize hL : jmp s pre = L at *
        replace hL := Lib.hid hL
        generalize hbb : byteD s k = b at *
        clear hbb
        go_wp2_with (go_at_call 10; (with_reducible refine (c1 _).mono ?_); rintro e wa ⟨rfl, hb_wa⟩; have hr2 := ownsRow_below (w := w) hrow hb_wa; have hbl2 := hbel.trans (hb_wa.mono hbs); have hbs2 := hbl2.size)
        go_roundw
        case rel =>
          refine ⟨f, q, pre ++ [k], by omega, by omega, rfl, hstep, ?_, hbl2⟩
          rw [hit.out]
          exact hr2
        case measure => simp [intOf]; omega
    · have hki : ¬ (k : Int) < (s.size : Int) := by omega
      rw [opsN_end s f k (by omega), List.append_nil] at hpre
      have hpre2 := hpre.out
      clear hpre
      subst hpre2
      go_wp2
      exact bodyPost_ret (by simp only [results, Try.results13]; go_simp; try rfl) rfl ⟨_, rfl, hrow, hbel⟩
end Go.Proofs.Ytjdhkdmcglnihaa
