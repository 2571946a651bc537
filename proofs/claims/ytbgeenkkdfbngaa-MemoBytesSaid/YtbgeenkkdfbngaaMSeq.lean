/-
  The contract of the iterator that memo.bytesOf hands back: the bytes of a text from a place on, and bytes 0 behind them, without end. Conditions: none.
-/
import Derived.RangeFuncBox
import Derived.LoopNIn
import Derived.LoopIn
import Derived.WalkMore
import Derived.Test.YtbgeenkkdfbngaaMLess
import Derived.Test.YtbgeenkkdfbngaaMBld
import Derived.Test.YtbgeenkkdfbngaaCount
import Derived.Test.YtbgeenkkdfbngaaMPut
import Derived.Test.YtbgeenkkdfbngaaRange
namespace Go.Proofs.Ytbgeenkkdfbngaa
open Go.RowKit Go.Shelf
attribute [local go_sem] leftBy Oper.semAt_some
set_option linter.unusedSimpArgs false
set_option linter.unusedVariables false

/-- The k-th byte of a text from a place on; 0 behind its end. -/
def srcF (s : ByteArray) (a k : Nat) : Nat := if a + k < s.size then byteD s (a + k) else 0
theorem srcF_in {s : ByteArray} {a k : Nat} (h : a + k < s.size) : srcF s a k = byteD s (a + k) := if_pos h
theorem srcF_out {s : ByteArray} {a k : Nat} (h : ¬ a + k < s.size) : srcF s a k = 0 := if_neg h

/-- Block R is not the builder's buffer. -/
def notBuf (b R : Nat) (W : World) : Prop := ∀ p v, W.heap[b]? = some (.cells #[p, v] 54 (0, 0)) → v.ownBlock ≠ some R
/-- A round keeps whatever lies below b, and whatever is not the builder or its buffer. -/
structure keptB (b : Nat) (W W' : World) : Prop where
  below : Below b W W'
  block : ∀ R o, b < R → W.heap[R]? = some o → o.isCells = true → notBuf b R W → W'.heap[R]? = some o ∧ notBuf b R W'

theorem notBuf_new {b R : Nat} {W W' : World} (h : ∃ v xs, bld W b v xs) (hb : Below W.heap.size W W') (hR : W.heap.size ≤ R) : notBuf b R W' := by
  obtain ⟨v, xs, h⟩ := h
  have h1 : ∃ p, bldP W b p v xs := by rcases h with h | h <;> exact ⟨_, h⟩
  obtain ⟨p, h1⟩ := h1
  intro p' v' h3
  have e := (hb.block b h1.lt).symm.trans h3
  rw [h1.1] at e
  injection e with e
  injection e with e
  injection e with e
  injection e with e1 e2
  injection e2 with e2 e3
  subst e2
  intro hv
  have := h1.own_lt R hv
  omega

theorem bytes_run (W : World) (s : ByteArray) (hs : s.size ≤ maxLen) : ∃ cap W', (convert 9 51 (.string s)).run Try.prog W = .ok (.slice (some ⟨W.heap.size, 0, none⟩) s.size cap) W' ∧ rowB W' W.heap.size s.size (byteD s) ∧ Below W.heap.size W W' := by
  have hr := run_bytes_of_string (P := Try.prog) W 9 51 5 s Try.underlying9 Try.underlying51 Try.underlying5
  refine ⟨_, _, hr, ⟨_, _, heap_alloc_new W.drew _, fun j hj => ?_⟩, ⟨rfl, rfl, rfl, by simp, fun k hk => heap_alloc_old W.drew _ k hk⟩⟩
  have hjd : j < s.data.size := hj
  unfold bytesRow byteD
  rw [Array.getElem?_append_left (by simpa using hjd)]
  simp
  exact ⟨_, Array.getElem?_eq_getElem hjd, by rw [Array.getElem?_eq_getElem hjd]; rfl⟩

set_option maxRecDepth 100000 in
set_option maxHeartbeats 4000000 in
theorem bytes_in (n : Nat) (l Bf Bs b : Nat) (s : ByteArray) (hs : s.size ≤ 10000) (a : Nat) (ha : a < Q256) (N : Nat) (cnt : World → Nat) (J : Nat → World → Prop) (Jx : World → Prop) (W : World)
    (hJb : ∀ k W W', J k W → Below W.heap.size W W' → J k W') (hcnt : ∀ k W, J k W → cnt W = k) (hbuf : ∀ k W, J k W → ∃ v xs, bld W b v xs)
    (hY : ∀ k W1, J k W1 → YieldAt (FW none) (n - 1) Try.prog l #[.int .u8 (srcF s a k : Nat)] W1 fun e W' => (e = .returned (.bool true) ∧ J (k + 1) W' ∧ keptB b W1 W' ∧ k < N) ∨ (e = .returned (.bool false) ∧ Jx W'))
    (hf : rowW 24 W Bf a) (hsc : W.cell? ⟨Bs, 0, none⟩ = some (.string s)) (hsl : Bs < W.heap.size) (h0 : J 0 W) :
    CallsIn (FW none) n Try.prog 42 #[.func (.yield l) #[] #[], .pointer (some ⟨Bf, 0, none⟩), .pointer (some ⟨Bs, 0, none⟩)] W fun e W' => (∃ v, e = .returned v) ∧ Jx W' := by
  have cO := fun W => Of_any s.size (by unfold M64; omega) W
  have cL := fun W => Less_any a s.size ha (by unfold Q256; omega) W
  obtain ⟨f0, f1, f2, f3, ff⟩ := hf.cells
  have hfl := (Array.getElem?_eq_some_iff.1 hf).1
  refine callsIn_of_wp Try.func42 rfl trivial ?_ rfl
  simp only [Try.ntmps42, List.size_toArray, List.length_cons, List.length_nil, Nat.reduceAdd, Nat.reduceSub, Array.replicate_succ, Array.replicate_zero, List.push_toArray, List.append_toArray, List.nil_append, List.cons_append]
  gi_wp2
  refine wpIn_flow (r := none) (fun k => ([1, 1, 1, 1, 1, 1] : List Nat).getD k 1) (Below (W.heap.size)) _ (Below.drew (Below.refl _ _)) (by kernel_rfl) (by kernel_rfl) ?_
  (refine flow_quiet rfl rfl (fun K hK => ?_); apply Exists.intro; apply And.intro; (focus (intro w' hw'; have hc := (bcell hw').1; go_simp; (try go_bits); all_goals (first | exact rfl | exact ⟨rfl, hw'⟩))); go_simp; (try go_bits); refine hK _ ?_; clear hK K)
  (refine flow_quiet rfl rfl (fun K hK => ?_); apply Exists.intro; apply And.intro; (focus (intro w' hw'; have hc := (bcell hw').1; go_simp; (try go_bits); all_goals (first | exact rfl | exact ⟨rfl, hw'⟩))); go_simp; (try go_bits); refine hK _ ?_; clear hK K)
  (refine flow_quiet rfl rfl (fun K hK => ?_); apply Exists.intro; apply And.intro; (focus (intro w' hw'; have hc := (bcell hw').1; go_simp; (try go_bits); all_goals (first | exact rfl | exact ⟨rfl, hw'⟩))); go_simp; (try go_bits); refine hK _ ?_; clear hK K)
  (refine flow_quiet rfl rfl (fun K hK => ?_); apply Exists.intro; apply And.intro; (focus (intro w' hw'; have hc := (bcell hw').1; go_simp; (try go_bits); all_goals (first | exact rfl | exact ⟨rfl, hw'⟩))); go_simp; (try go_bits); refine hK _ ?_; clear hK K)
  first | (refine flow_quiet rfl rfl (fun K hK => ?_); apply Exists.intro; apply And.intro; (focus (intro w' hw'; have hc := (bcell hw').1; go_simp; (try go_bits); all_goals (go_at_call 37; with_reducible refine (cO _).mono ?_; rintro e w2 ⟨rfl, hb⟩; exact ⟨rfl, hw'.trans (hb.mono (below_le hw' (by simp)))⟩))); go_simp; (try go_bits); refine hK _ ?_; clear hK K) | (refine flow_quiet rfl rfl (fun K hK => ?_); apply Exists.intro; apply And.intro; (focus (intro w' hw'; have hc := (bcell hw').1; go_simp; (try go_bits); all_goals (go_at_call 37; refine (cO _).mono ?_; rintro e w2 ⟨rfl, hb⟩; exact ⟨rfl, hw'.trans (hb.mono (below_le hw' (by simp)))⟩))); go_simp; (try go_bits); refine hK _ ?_; clear hK K)
  first | (refine flow_quiet rfl rfl (fun K hK => ?_); apply Exists.intro; apply And.intro; (focus (intro w' hw'; have hc := (bcell hw').1; go_simp; (try go_bits); all_goals (go_at_call 43; with_reducible refine (cL _).mono ?_; rintro e w2 ⟨rfl, hb⟩; exact ⟨rfl, hw'.trans (hb.mono (below_le hw' (by simp)))⟩))); go_simp; (try go_bits); refine hK _ ?_; clear hK K) | (refine flow_quiet rfl rfl (fun K hK => ?_); apply Exists.intro; apply And.intro; (focus (intro w' hw'; have hc := (bcell hw').1; go_simp; (try go_bits); all_goals (go_at_call 43; refine (cL _).mono ?_; rintro e w2 ⟨rfl, hb⟩; exact ⟨rfl, hw'.trans (hb.mono (below_le hw' (by simp)))⟩))); go_simp; (try go_bits); refine hK _ ?_; clear hK K)
  refine flow_nil ?_
  intro w' hw'
  have hJ' := hJb 0 W w' h0 hw'
  by_cases hlt : a < s.size
  · rw [show ltB a s.size = true from by unfold ltB; simpa using hlt]
    have ea : lb a 0 = a := by unfold lb M64; simp; omega
    rw [ea] at f0
    have g0 : w'.cell? ⟨Bf, 0, none⟩ = some (.int .u64 (a : Nat)) := (hw'.cell (p := ⟨Bf, 0, none⟩) hfl).trans f0
    have gs : w'.cell? ⟨Bs, 0, none⟩ = some (.string s) := (hw'.cell (p := ⟨Bs, 0, none⟩) hsl).trans hsc
    have hai : (a : Int) ≤ (s.size : Int) := by omega
    have hai2 : 0 ≤ (a : Int) := by omega
    have hat : ((a : Nat) : Int).toNat = a := by omega
    have hsm : s.size ≤ maxLen := by unfold maxLen; omega
    clear cO cL f0 f1 f2 f3 ff
    gi_wp2
    obtain ⟨m, hm⟩ : ∃ m, m = s.size - a := ⟨_, rfl⟩
    have hTs : (s.extract a s.size).size = m := by rw [ByteArray.size_extract]; omega
    have hTb : ∀ j, j < m → byteD (s.extract a s.size) j = byteD s (a + j) := fun j hj => byteD_extract _ _ _ _ (by omega) (by omega)
    obtain ⟨cap, w2, hr, hrow, hb2⟩ := bytes_run w' (s.extract a s.size) (by rw [hTs]; unfold maxLen; omega)
    rw [hTs] at hr hrow
    have hrow2 := hrow.to hTb
    clear hrow
    generalize s.extract a s.size = T at *
    have hnb := notBuf_new (hbuf 0 w' hJ') hb2 (Nat.le_refl _)
    have hbR : b < w'.heap.size := by
      obtain ⟨v, xs, h⟩ := hbuf 0 w' hJ'
      rcases h with h | h <;> exact h.lt
    have hJ2 := hJb 0 w' w2 hJ' hb2
    generalize w'.heap.size = R at *
    rw [hr]
    simp only [Result.andThen]
    rw [Oper.uponIn_value]
    gi_wp2
    gi_loopw [5, 18] (fun c i wr => ∃ k : Nat, k ≤ m ∧ i = .int .i64 k ∧ J k wr ∧ rowB wr R m (fun j => byteD s (a + j)) ∧ notBuf b R wr)
      (fun c i _ => m - (intOf i).toNat)
    case atStart => exact ⟨0, by omega, by go_num, hJ2, hrow2, hnb⟩
    case round =>
      obtain ⟨k, hk, rfl, hJk, hrk, hnk⟩ := hrel
      by_cases hkm : k < m
      · have hki : (k : Int) < (m : Int) := by omega
        have e1 := hrk.cellAt (j := k) hkm
        have hYk := hY k wr hJk
        rw [srcF_in (by omega)] at hYk
        obtain ⟨fn, tmps, assign, body, hy, hR⟩ := hYk
        have hRl := hrk.lt
        gi_wp2
        refine hR.mono ?_
        rintro e W3 (⟨rfl, hJ3, hk3, hkN⟩ | ⟨rfl, hx3⟩)
        · obtain ⟨cur, fz, hcur, _⟩ := id hrk
          obtain ⟨hrow3, hnb3⟩ := hk3.block R _ hbR hcur rfl hnk
          gi_wp2
          go_roundw
          case rel => exact ⟨k + 1, by omega, by go_num, hJ3, hrk.of (hrow3.trans hcur.symm), hnb3⟩
          case measure => simp [intOf]; omega
        · gi_wp2
          refine bodyPost_ret (results_none rfl _ _ _) rfl ?_
          exact ⟨⟨_, rfl⟩, hx3⟩
      · have hki : ¬ (k : Int) < (m : Int) := by omega
        have hstart : ∃ k : Nat, s.size ≤ a + k ∧ J k wr := ⟨k, by omega, hJk⟩
        gi_wp2
        gi_loopw [] (fun wr => ∃ k : Nat, s.size ≤ a + k ∧ J k wr) (fun wr => N - cnt wr)
        case atStart => exact hstart
        case round =>
          obtain ⟨k, hk, hJk⟩ := hrel
          have hYk := hY k wr hJk
          rw [srcF_out (by omega)] at hYk
          replace hYk : YieldAt (FW none) (n - 1) Try.prog l #[.int .u8 0] wr _ := hYk
          obtain ⟨fn, tmps, assign, body, hy, hR⟩ := hYk
          have hck := hcnt k wr hJk
          gi_wp2
          refine hR.mono ?_
          rintro e W3 (⟨rfl, hJ3, hk3, hkN⟩ | ⟨rfl, hx3⟩)
          · have hck3 := hcnt _ _ hJ3
            gi_wp2
            go_roundw
            case rel => exact ⟨k + 1, by omega, hJ3⟩
            case measure => omega
          · gi_wp2
            go_end0
            exact ⟨⟨_, rfl⟩, hx3⟩
  · rw [show ltB a s.size = false from by unfold ltB; simpa using hlt]
    clear cO cL f0 f1 f2 f3 ff
    have hstart : ∃ k : Nat, s.size ≤ a + k ∧ J k w' := ⟨0, by omega, hJ'⟩
    gi_wp2
    gi_loopw [] (fun wr => ∃ k : Nat, s.size ≤ a + k ∧ J k wr) (fun wr => N - cnt wr)
    case atStart => exact hstart
    case round =>
      obtain ⟨k, hk, hJk⟩ := hrel
      have hYk := hY k wr hJk
      rw [srcF_out (by omega)] at hYk
      replace hYk : YieldAt (FW none) (n - 1) Try.prog l #[.int .u8 0] wr _ := hYk
      obtain ⟨fn, tmps, assign, body, hy, hR⟩ := hYk
      have hck := hcnt k wr hJk
      gi_wp2
      refine hR.mono ?_
      rintro e W3 (⟨rfl, hJ3, hk3, hkN⟩ | ⟨rfl, hx3⟩)
      · have hck3 := hcnt _ _ hJ3
        gi_wp2
        go_roundw
        case rel => exact ⟨k + 1, by omega, hJ3⟩
        case measure => omega
      · gi_wp2
        go_end0
        exact ⟨⟨_, rfl⟩, hx3⟩
end Go.Proofs.Ytbgeenkkdfbngaa
