/-
  Texts of one proof, one behind the other. Conditions: each text's own line says them.
-/
import Derived.RangeFuncBox
import Derived.LoopNIn
import Derived.LoopIn
import Derived.WalkMore
import Derived.Maps.AppendAt
import Derived.Test.YtijidnhaijdfaaaGreatDoorPR17
import Derived.Test.YtijidnhaijdfaaaGreatDoorPR32
import Derived.Test.YtijidnhaijdfaaaGreatDoorPR30
import Derived.Test.YtijidnhaijdfaaaGreatDoorPR36
import Derived.Test.YtijidnhaijdfaaaGreatDoorPR4
import Derived.OwnWalkIn
import Derived.Maps.OwnIn

/- The logs of items, one behind the other: logs. Conditions: the items are those of right logs. -/
namespace Go.Proofs.YtijidnhaijdfaaaGreatDoor
open Go.RowKit
attribute [local go_sem] leftBy leaves leavesY Oper.semAt_some
set_option linter.unusedSimpArgs false
set_option linter.unusedVariables false

/-- A log as a value. -/
def lgF (F : Nat → Prop) (W : World) (v : Value) (x : Lg) : Prop := ∃ sv, v = .agg #[.string (bsS x.a), sv, .string (bsS x.d)] ∧ rowF F W sv (x.t.map tx)
/-- New blocks that are not the row's own that a receipt's block Br holds. -/
def freshG (Br B : Nat) (W : World) (q : Nat) : Prop := B ≤ q ∧ ∀ b g u, W.heap[Br]? = some (.cells #[b, g, u] 47 (0, 0)) → u.ownBlock ≠ some q
def logY (Br B : Nat) (L : List Lg) (k : Nat) (W : World) (vs : Array Value) : Prop := ∃ x v, L[k]? = some x ∧ vs = #[v, .bool true] ∧ lgF (freshG Br B W) W v x
/-- A log's cells while it is laid. -/
def lsO (x : Lg) (u : Value) (s : Nat) : Obj := match s with
  | 0 => .cells #[.string ⟨#[]⟩, u, .string ⟨#[]⟩] 81 (0, 0)
  | 1 => .cells #[.string (bsS x.a), u, .string ⟨#[]⟩] 81 (0, 0)
  | _ => .cells #[.string (bsS x.a), u, .string (bsS x.d)] 81 (0, 0)
structure lsR (W1 : World) (q : Nat) (x : Lg) (u : Value) (s : Nat) (w' : World) : Prop where
  fr : Fr (fun k => k = q) W1 w'
  now : w'.heap[q]? = some (lsO x u s)
def ylR (J : Nat → World → Prop) (k : Nat) (W1 : World) : Nat → World → Prop
  | 0, w' => Below W1.heap.size W1 w'
  | _, w' => J (k + 1) w'
set_option maxRecDepth 100000 in
set_option maxHeartbeats 16000000 in
theorem logs_it (n : Nat) (hn : 1 ≤ n) (l Br B Bx : Nat) (a : Option Addr) (c : Nat) (L : List Lg) (hR : ∀ x ∈ L, x.right) (hLn : L.length ≤ 1000000) (J : Nat → World → Prop) (W : World)
    (hJb : ∀ k W W', J k W → Below W.heap.size W W' → J k W')
    (hJI : ∀ k W', J k W' → itsF (fun _ => True) W' a 0 (L.map Lg.item) ∧ B ≤ W'.heap.size ∧ Br < W'.heap.size)
    (hJv : ∀ k W', J k W' → ∀ b g u, W'.heap[Br]? = some (.cells #[b, g, u] 47 (0, 0)) → ∀ q, u.ownBlock = some q → q < W'.heap.size)
    (hY : ∀ k W1 vs, J k W1 → k < L.length → logY Br B L k W1 vs → YieldAt (FW none) (n - 1) Tryz.prog l vs W1 fun e W' => e = .returned (.bool true) ∧ J (k + 1) W' ∧ True)
    (h0 : J 0 W) (hs : W.heap[Bx]? = some (.cells #[.slice a L.length c] 49 (0, 0))) :
    CallsIn (FW none) n Tryz.prog 57 #[.func (.yield l) #[] #[], .pointer (some ⟨Bx, 0, none⟩)] W fun e W' => (∃ v, e = .returned v) ∧ J L.length W' := by
  refine callsIn_of_wp Tryz.func57 rfl trivial ?_ rfl
  simp only [Tryz.ntmps57, List.size_toArray, List.length_cons, List.length_nil, Nat.reduceAdd, Nat.reduceSub, Array.replicate_succ, Array.replicate_zero, List.push_toArray, List.append_toArray, List.nil_append, List.cons_append]
  have c0 := Lib.cell_of_heap hs 0
  simp only [List.getElem?_toArray, List.getElem?_cons_zero] at c0
  gi_wp2
  gi_loopw [9] (fun t9 wr => ∃ k : Nat, k ≤ L.length ∧ t9 = .int .i64 (k : Nat) ∧ J k wr) (fun t9 _ => L.length - (intOf t9).toNat)
  case atStart => exact ⟨0, Nat.zero_le _, rfl, h0⟩
  case round =>
    obtain ⟨k, hk, rfl, hJ⟩ := hrel
    by_cases hkl : k < L.length
    · obtain ⟨x, hx⟩ : ∃ x, L[k]? = some x := ⟨_, List.getElem?_eq_getElem hkl⟩
      have hki : (k : Int) < (L.length : Int) := by omega
      have hxr := hR x (List.mem_of_getElem? hx)
      obtain ⟨hI, hBw, hBr⟩ := hJI k wr hJ
      have hJB := hJv k wr hJ
      obtain ⟨bl, o, p, cc, ⟨rfl, _⟩, d0, d1, d2, hv⟩ := itsF.get (k := k) hI (by rw [List.getElem?_map, hx]; rfl)
      rw [Nat.zero_add] at d0 d1 d2
      have d1' : wr.cell? ⟨bl, o + k * 3 + 1, none⟩ = some (.string ⟨#[]⟩) := d1
      have d0' : wr.cell? ⟨bl, o + k * 3, none⟩ = some (.bool true) := d0
      have d2' : wr.cell? ⟨bl, o + k * 3 + 2, none⟩ = some (.slice p 3 cc) := d2
      obtain ⟨p', c', hve, hcc, hsub⟩ := hv.form
      have hpe : p = p' ∧ cc = c' := by
        simp only [Value.agg.injEq] at hve
        have e := congrArg Array.toList hve
        simp only [List.cons.injEq, and_true] at e
        simpa using e
      obtain ⟨rfl, rfl⟩ := hpe
      obtain ⟨sb, so, p0, q0, ⟨rfl, _⟩, s00, s01, _, _⟩ := itsF.get (k := 0) hsub rfl
      obtain ⟨sb1, so1, p1, q1, ⟨e1, _⟩, s10, s11, s12, hl1⟩ := itsF.get (k := 1) hsub rfl
      obtain ⟨sb2, so2, p2, q2, ⟨e2, _⟩, s20, s21, _, _⟩ := itsF.get (k := 2) hsub rfl
      simp only [Option.some.injEq, Addr.mk.injEq, and_true] at e1 e2
      obtain ⟨rfl, rfl⟩ := e1
      obtain ⟨rfl, rfl⟩ := e2
      simp only [Nat.zero_add, Nat.zero_mul, Nat.one_mul, Nat.add_zero] at s00 s01 s10 s11 s12 s20 s21
      replace s00 : wr.cell? ⟨sb, so, none⟩ = some (.bool false) := s00
      replace s01 : wr.cell? ⟨sb, so + 1, none⟩ = some (.string (bsS x.a)) := s01
      replace s10 : wr.cell? ⟨sb, so + 3, none⟩ = some (.bool true) := s10
      replace s11 : wr.cell? ⟨sb, so + 3 + 1, none⟩ = some (.string ⟨#[]⟩) := s11
      replace s12 : wr.cell? ⟨sb, so + 3 + 2, none⟩ = some (.slice p1 (x.t.map It.text).length q1) := s12
      rw [List.length_map] at s12
      replace s20 : wr.cell? ⟨sb, so + 6, none⟩ = some (.bool false) := s20
      replace s21 : wr.cell? ⟨sb, so + 6 + 1, none⟩ = some (.string (bsS x.d)) := s21
      have hsb := lt_of_cell s00
      dsimp only at hsb
      have z1 : (wr.alloc (.cells #[.bool true, .string ⟨#[]⟩, .slice (some ⟨sb, so, none⟩) 3 cc] 51)).heap.size = wr.heap.size + 1 := World.size_alloc _ _
      have z2 : ((wr.alloc (.cells #[.bool true, .string ⟨#[]⟩, .slice (some ⟨sb, so, none⟩) 3 cc] 51)).alloc (.cells #[.string ⟨#[]⟩, .slice none 0 0, .string ⟨#[]⟩] 81)).heap.size = wr.heap.size + 2 := by rw [World.size_alloc, z1]
      have bA : Below wr.heap.size wr ((wr.alloc (.cells #[.bool true, .string ⟨#[]⟩, .slice (some ⟨sb, so, none⟩) 3 cc] 51)).alloc (.cells #[.string ⟨#[]⟩, .slice none 0 0, .string ⟨#[]⟩] 81)) := ((Below.refl _ wr).alloc (Nat.le_refl _) _).alloc (by rw [z1]; omega) _
      have g00 := (bA.cell (p := ⟨sb, so, none⟩) hsb).trans s00
      have g10 := (bA.cell (p := ⟨sb, so + 3, none⟩) hsb).trans s10
      have g11 := (bA.cell (p := ⟨sb, so + 3 + 1, none⟩) hsb).trans s11
      have g12 := (bA.cell (p := ⟨sb, so + 3 + 2, none⟩) hsb).trans s12
      have g20 := (bA.cell (p := ⟨sb, so + 6, none⟩) hsb).trans s20
      have hA : ((wr.alloc (.cells #[.bool true, .string ⟨#[]⟩, .slice (some ⟨sb, so, none⟩) 3 cc] 51)).alloc (.cells #[.string ⟨#[]⟩, .slice none 0 0, .string ⟨#[]⟩] 81)).heap[wr.heap.size]? = some (.cells #[.bool true, .string ⟨#[]⟩, .slice (some ⟨sb, so, none⟩) 3 cc] 51 (0, 0)) := (Below.heap_alloc _ _ _ (by rw [z1]; omega)).trans (heap_new rfl)
      have hB : ((wr.alloc (.cells #[.bool true, .string ⟨#[]⟩, .slice (some ⟨sb, so, none⟩) 3 cc] 51)).alloc (.cells #[.string ⟨#[]⟩, .slice none 0 0, .string ⟨#[]⟩] 81)).heap[wr.heap.size + 1]? = some (.cells #[.string ⟨#[]⟩, .slice none 0 0, .string ⟨#[]⟩] 81 (0, 0)) := heap_new (by rw [z1])
      obtain ⟨y0, y1, y2⟩ := cell3 hA
      have hit1 : itF (fun _ => True) ((wr.alloc (.cells #[.bool true, .string ⟨#[]⟩, .slice (some ⟨sb, so, none⟩) 3 cc] 51)).alloc (.cells #[.string ⟨#[]⟩, .slice none 0 0, .string ⟨#[]⟩] 81)) (.list (x.t.map It.text)) (.agg #[.bool true, .string ⟨#[]⟩, .slice p1 x.t.length q1]) := by
        have h : itF (fun _ => True) ((wr.alloc (.cells #[.bool true, .string ⟨#[]⟩, .slice (some ⟨sb, so, none⟩) 3 cc] 51)).alloc (.cells #[.string ⟨#[]⟩, .slice none 0 0, .string ⟨#[]⟩] 81)) (.list (x.t.map It.text)) (.agg #[.bool true, .string ⟨#[]⟩, .slice p1 (x.t.map It.text).length q1]) := hl1.below bA
        rwa [List.length_map] at h
      have cT := texts_any x.t (by have := hxr.2.1; omega) _ _ hit1
      have hJIh := Lib.hid hJI
      have hJBh := Lib.hid hJB
      have hYh := Lib.hid hY
      have hJbh := Lib.hid hJb
      have hBh := Lib.hid hB
      have hAh := Lib.hid hA
      clear hJI hJB hY hJb hI hJv hsub hve hv hl1 hit1 d0 d1 d2 s00 s10 s11 s12 s20 hR h0 c0 hs
      refine wpIn_hide fun QQ hQQ => ?_
      gi_wp2_with (gi_at_call 26; (with_reducible refine (callsIn_FW cT).mono ?_); rintro e w4 ⟨u, rfl, hu, hb4⟩; obtain ⟨ta, tc, hue, ⟨tc1, tc2⟩, htc⟩ := id hu; rw [List.length_map] at hue tc1; subst hue; have n4 := (hb4.block (wr.heap.size + 1) (by rw [z2]; omega)).trans hBh.out; obtain ⟨m0, m1, m2⟩ := cell3 n4; have fz := Lib.frozen_of_heap n4 1)
      have z4 := hb4.size
      rw [z2] at hb4 z4 hu
      obtain ⟨W5, hW5⟩ : ∃ W5, W5 = w4.setCell ⟨wr.heap.size + 1, 1, none⟩ (.slice ta x.t.length tc) := ⟨_, rfl⟩
      rw [← hW5]
      have b5 : Below wr.heap.size wr W5 := by
        rw [hW5]
        exact (bA.trans (hb4.mono (by omega))).setCell (p := ⟨wr.heap.size + 1, 1, none⟩) (Nat.le_succ _) _
      have n5 : W5.heap[wr.heap.size + 1]? = some (lsO x (.slice ta x.t.length tc) 0) := by
        rw [hW5, setCell_at n4 1]
        rfl
      have hA5 : W5.heap[wr.heap.size]? = some (.cells #[.bool true, .string ⟨#[]⟩, .slice (some ⟨sb, so, none⟩) 3 cc] 51 (0, 0)) := by
        rw [hW5]
        exact (heap_set_ne (by omega)).trans ((hb4.block _ (by omega)).trans hAh.out)
      have hs5 : wr.heap.size + 2 ≤ W5.heap.size := by rw [hW5, World.size_setCell]; exact z4
      obtain ⟨_, _, v2⟩ := cell3 hA5
      have j0 := (b5.cell (p := ⟨sb, so + 1, none⟩) hsb).trans s01
      have j2 := (b5.cell (p := ⟨sb, so + 6 + 1, none⟩) hsb).trans s21
      have hW5h := Lib.hid hW5
      clear hW5
      clear y0 y1 y2 g00 g10 g11 g12 g20 m0 m1 m2 fz cT
      refine wpIn_flowU (r := none) (fun k => ([1, 1, 1, 1, 1, 0, 0, 0, 0, 0, 1, 2, 1, 2] : List Nat).getD k 1) (lsR W5 (wr.heap.size + 1) x (.slice ta x.t.length tc)) (fun _ => True) (0) (⟨Fr.drew (Fr.refl _ _), n5⟩) trivial (by kernel_rfl) (by kernel_rfl) ?_
      iterate 5 ((refine flowU_readE rfl rfl (fun K hK => ?_); apply Exists.intro; apply And.intro; (focus (intro w' hR; have e0 := hR.fr.cell v2 (by omega) (by omega); have e1 := hR.fr.cell j0 (by omega) (by omega); have e2 := hR.fr.cell j2 (by omega) (by omega); clear hR; go_simp; (try go_bits); exact rfl)); go_simp; (try go_bits); refine hK _ ?_; clear hK K))
      iterate 5 ((refine flowU_lateE rfl rfl (fun K hK => ?_); apply Exists.intro; apply And.intro; (focus (intro s0 w' hC hR; have e0 := hR.fr.cell v2 (by omega) (by omega); have e1 := hR.fr.cell j0 (by omega) (by omega); have e2 := hR.fr.cell j2 (by omega) (by omega); clear hR; go_simp; (try go_bits); exact rfl)); go_simp; (try go_bits); refine hK _ ?_; clear hK K))
      (refine flowU_readE rfl rfl (fun K hK => ?_); apply Exists.intro; apply And.intro; (focus (intro w' hR; have e0 := hR.fr.cell v2 (by omega) (by omega); have e1 := hR.fr.cell j0 (by omega) (by omega); have e2 := hR.fr.cell j2 (by omega) (by omega); clear hR; go_simp; (try go_bits); exact rfl)); go_simp; (try go_bits); refine hK _ ?_; clear hK K)
      refine flowU_step (fun v s => v = undef ∧ s = 1) (by decide) rfl ⟨_, _, rfl, rfl⟩ (fun w' hR => ?_) (fun _ _ _ _ _ => trivial) (fun K hK v s2 hs2 => ?_)
      focus
        have hfr := hR.fr
        have hnow : w'.heap[wr.heap.size + 1]? = some (.cells #[.string ⟨#[]⟩, .slice ta x.t.length tc, .string ⟨#[]⟩] 81 (0, 0)) := hR.now
        have f0 := Lib.frozen_of_heap hnow 0
        obtain ⟨i0, i1, i2⟩ := cell3 hnow
        have hput : (w'.setCell ⟨wr.heap.size + 1, 0, none⟩ (.string (bsS x.a))).heap[wr.heap.size + 1]? = some (lsO x (.slice ta x.t.length tc) 1) := by
          rw [setCell_at hnow 0]
          rfl
        clear hR hnow
        go_simp
        exact ⟨Fr.setCell (T := fun k => k = wr.heap.size + 1) hfr (.inl rfl) _, hput⟩
      obtain ⟨rfl, rfl⟩ := hs2
      (go_simp; refine hK _ _ ?_; clear hK K)
      (refine flowU_readE rfl rfl (fun K hK => ?_); apply Exists.intro; apply And.intro; (focus (intro w' hR; have e0 := hR.fr.cell v2 (by omega) (by omega); have e1 := hR.fr.cell j0 (by omega) (by omega); have e2 := hR.fr.cell j2 (by omega) (by omega); clear hR; go_simp; (try go_bits); exact rfl)); go_simp; (try go_bits); refine hK _ ?_; clear hK K)
      refine flowU_step (fun v s => v = undef ∧ s = 2) (by decide) rfl ⟨_, _, rfl, rfl⟩ (fun w' hR => ?_) (fun _ _ _ _ _ => trivial) (fun K hK v s2 hs2 => ?_)
      focus
        have hfr := hR.fr
        have hnow : w'.heap[wr.heap.size + 1]? = some (.cells #[.string (bsS x.a), .slice ta x.t.length tc, .string ⟨#[]⟩] 81 (0, 0)) := hR.now
        have f0 := Lib.frozen_of_heap hnow 2
        obtain ⟨i0, i1, i2⟩ := cell3 hnow
        have hput : (w'.setCell ⟨wr.heap.size + 1, 2, none⟩ (.string (bsS x.d))).heap[wr.heap.size + 1]? = some (lsO x (.slice ta x.t.length tc) 2) := by
          rw [setCell_at hnow 2]
          rfl
        clear hR hnow
        go_simp
        exact ⟨Fr.setCell (T := fun k => k = wr.heap.size + 1) hfr (.inl rfl) _, hput⟩
      obtain ⟨rfl, rfl⟩ := hs2
      (go_simp; refine hK _ _ ?_; clear hK K)
      refine flowU_nil ?_
      intro W6 hR6
      have b6 : Below wr.heap.size wr W6 := b5.trans (hR6.fr.toBelow (by omega) fun q hq => by omega)
      have n6 : W6.heap[wr.heap.size + 1]? = some (.cells #[.string (bsS x.a), .slice ta x.t.length tc, .string (bsS x.d)] 81 (0, 0)) := hR6.now
      have hJ6 : J k W6 := hJbh.out k wr W6 hJ b6
      obtain ⟨r0, r1, r2⟩ := cell3 n6
      have hu6 : rowF (fun q => wr.heap.size ≤ q) W6 (.slice ta x.t.length tc) (x.t.map tx) := hu.to fun q hq hc => ⟨by omega, (hR6.fr.block q (by have := hc.lt; rw [hW5h.out, World.size_setCell]; exact this) (by omega)).trans (by rw [hW5h.out]; exact heap_set_ne (by omega))⟩
      have hs6 : wr.heap.size + 2 ≤ W6.heap.size := by have := hR6.fr.size; omega
      clear hR6 hu hA5 n5 v2 j0 j2 htc n4
      gi_wp2
      obtain ⟨wo, rfl⟩ : ∃ wo : World, wo = wr := ⟨_, rfl⟩
      have hlog : ∀ w', Below W6.heap.size W6 w' → logY Br B L k w' #[.agg #[.string (bsS x.a), .slice ta x.t.length tc, .string (bsS x.d)], .bool true] := fun w' hb => by
        refine ⟨x, _, hx, rfl, _, rfl, hu6.to fun q hq hc => ⟨⟨by omega, fun b g u hbu e => ?_⟩, hb.block q hc.lt⟩⟩
        rw [(b6.trans (hb.mono (by omega))).block Br hBr] at hbu
        have := hJBh.out b g u hbu q e
        omega
      have cI := fun w' (hb : Below W6.heap.size W6 w') => isLog_any x w' (.slice ta x.t.length tc) (hu6.to fun q hq hc => ⟨trivial, hb.block q hc.lt⟩)
      rw [decide_eq_true hxr] at cI
      have hYk := fun w' (hb : Below W6.heap.size W6 w') => hYh.out k w' _ (hJbh.out k _ _ hJ6 hb) hkl (hlog w' hb)
      clear hlog hJIh hJbh hYh hJBh hBh hAh hxr
      refine wpIn_flowY (σ := Nat) (fun k => ([0, 0, 1, 1, 1, 2, 1, 4, 1] : List Nat).getD k 1) (ylR J k W6) (fun s => s = 0) 0 (Below.drew (Below.refl _ _)) rfl (by kernel_rfl) (by kernel_rfl) ?_
      (refine flowY_lateE rfl rfl (fun K hK => ?_); apply Exists.intro; apply And.intro; (focus (intro s0 w' hC hR; clear hC hR; go_simp; (try go_bits); exact rfl)); go_simp; (try go_bits); refine hK _ ?_; clear hK K)
      (refine flowY_lateE rfl rfl (fun K hK => ?_); apply Exists.intro; apply And.intro; (focus (intro s0 w' hC hR; obtain rfl := hC; replace hR : Below W6.heap.size W6 w' := hR; have e0 := (hR.cell (p := ⟨wo.heap.size + 1, 0, none⟩) (show wo.heap.size + 1 < W6.heap.size by omega)).trans r0; have e1 := (hR.cell (p := ⟨wo.heap.size + 1, 1, none⟩) (show wo.heap.size + 1 < W6.heap.size by omega)).trans r1; have e2 := (hR.cell (p := ⟨wo.heap.size + 1, 2, none⟩) (show wo.heap.size + 1 < W6.heap.size by omega)).trans r2; clear hR; go_simp; (try go_bits); exact rfl)); go_simp; (try go_bits); refine hK _ ?_; clear hK K)
      iterate 2 ((refine flowY_readE rfl rfl (fun K hK => ?_); apply Exists.intro; apply And.intro; (focus (intro w' hR; clear hR; go_simp; (try go_bits); exact rfl)); go_simp; (try go_bits); refine hK _ ?_; clear hK K))
      (refine flowY_readE rfl rfl (fun K hK => ?_); apply Exists.intro; apply And.intro; (focus (intro w' hR; replace hR : Below W6.heap.size W6 w' := hR; have e0 := (hR.cell (p := ⟨wo.heap.size + 1, 0, none⟩) (show wo.heap.size + 1 < W6.heap.size by omega)).trans r0; have e1 := (hR.cell (p := ⟨wo.heap.size + 1, 1, none⟩) (show wo.heap.size + 1 < W6.heap.size by omega)).trans r1; have e2 := (hR.cell (p := ⟨wo.heap.size + 1, 2, none⟩) (show wo.heap.size + 1 < W6.heap.size by omega)).trans r2; clear hR; go_simp; (try go_bits); exact rfl)); go_simp; (try go_bits); refine hK _ ?_; clear hK K)
      refine flowY_step (fun v s => v = .bool true ∧ s = 0) (by decide) rfl ⟨_, _, rfl, rfl⟩ (fun w' hR => ?_) (fun _ _ _ _ h => h.2) (fun K hK v s2 hs2 => ?_)
      focus
        replace hR : Below W6.heap.size W6 w' := hR
        have cQ := cI w' hR
        go_simp
        exact cQ.mono (by rintro e w4 ⟨rfl, hb⟩; exact ⟨_, rfl, 0, ⟨rfl, rfl⟩, hR.trans (hb.mono hR.size)⟩)
      obtain ⟨rfl, rfl⟩ := hs2
      (go_simp; refine hK _ _ ?_; clear hK K)
      (refine flowY_readE rfl rfl (fun K hK => ?_); apply Exists.intro; apply And.intro; (focus (intro w' hR; clear hR; go_simp; (try go_bits); exact rfl)); go_simp; (try go_bits); refine hK _ ?_; clear hK K)
      refine flowY_step (fun v s => v = .bool true ∧ s = 1) (by decide) rfl ⟨_, _, rfl, rfl⟩ (fun w' hR => ?_) (fun h _ _ _ _ => absurd rfl h) (fun K hK v s2 hs2 => ?_)
      focus
        replace hR : Below W6.heap.size W6 w' := hR
        obtain ⟨fn, tmps, assign, body, hy, hr⟩ := hYk w' hR
        go_simp
        exact hr.mono (by rintro e w3 ⟨rfl, hJ3, _⟩; exact ⟨_, rfl, 1, ⟨rfl, rfl⟩, hJ3⟩)
      obtain ⟨rfl, rfl⟩ := hs2
      (go_simp; refine hK _ _ ?_; clear hK K)
      (refine flowY_readE rfl rfl (fun K hK => ?_); apply Exists.intro; apply And.intro; (focus (intro w' hR; clear hR; go_simp; (try go_bits); exact rfl)); go_simp; (try go_bits); refine hK _ ?_; clear hK K)
      refine flowY_nil ?_
      intro W7 hJ7
      replace hJ7 : J (k + 1) W7 := hJ7
      gi_wp2
      refine hQQ.out _ _ _ ?_
      simp only [Exit.then, Exit.inBlock]
      go_roundw
      case rel => exact ⟨k + 1, by omega, by go_num, hJ7⟩
      case measure => simp [intOf]; omega
    · obtain rfl : k = L.length := by omega
      gi_wp2
      go_end0
      exact ⟨⟨_, rfl⟩, hJ⟩
end Go.Proofs.YtijidnhaijdfaaaGreatDoor

/- The receipt of bytes: acct.ReceiptFrom. Conditions: they are a right receipt's. -/
namespace Go.Proofs.YtijidnhaijdfaaaGreatDoor
open Go.RowKit
attribute [local go_sem] leftBy leaves Oper.semAt_some
set_option linter.unusedSimpArgs false
set_option linter.unusedVariables false

theorem logs_any (a : Option Addr) (n c : Nat) (W : World) : Calls Tryz.prog 35 #[.slice a n c] W fun e w' => e = .returned (.func (.func 57) #[] #[.pointer (some ⟨W.heap.size, 0, none⟩)]) ∧ w' = W.alloc (.cells #[.slice a n c] 49) := by
  go_enter Tryz.func35, Tryz.ntmps35
  go_wp2
  go_ret
  exact ⟨rfl, rfl⟩
/-- A receipt's three parts, as items. -/
structure subC (x : Rc) (sb so : Nat) (p2 : Option Addr) (q2 : Nat) (W : World) : Prop where
  c00 : W.cell? ⟨sb, so, none⟩ = some (.bool false)
  c01 : W.cell? ⟨sb, so + 1, none⟩ = some (.string (bsS x.goodS))
  c10 : W.cell? ⟨sb, so + 3, none⟩ = some (.bool false)
  c11 : W.cell? ⟨sb, so + 3 + 1, none⟩ = some (.string (bsS (num x.gas)))
  c20 : W.cell? ⟨sb, so + 6, none⟩ = some (.bool true)
  c22 : W.cell? ⟨sb, so + 6 + 2, none⟩ = some (.slice p2 x.logs.length q2)
theorem subC.to {x : Rc} {sb so : Nat} {p2 : Option Addr} {q2 : Nat} {W W' : World} (h : subC x sb so p2 q2 W) (e : W'.heap[sb]? = W.heap[sb]?) : subC x sb so p2 q2 W' :=
  ⟨cell_same h.c00 e, cell_same h.c01 e, cell_same h.c10 e, cell_same h.c11 e, cell_same h.c20 e, cell_same h.c22 e⟩
theorem sub_of {F : Nat → Prop} {W : World} {x : Rc} {v : Value} (h : itF F W x.item v) : ∃ sb so vc p2 q2, v = .agg #[.bool true, .string ⟨#[]⟩, .slice (some ⟨sb, so, none⟩) 3 vc] ∧ (F sb ∧ sb < W.heap.size) ∧ subC x sb so p2 q2 W ∧ (x.logs.length ≤ q2 ∧ q2 ≤ maxLen) ∧ itsF F W p2 0 (x.logs.map Lg.item) := by
  obtain ⟨va, vc, hv, hvc, hs⟩ := h.form
  obtain ⟨sb, so, p0, q0, ⟨rfl, hF⟩, s00, s01, _, _⟩ := itsF.get (k := 0) hs rfl
  obtain ⟨sb1, so1, p1, q1, ⟨e1, _⟩, s10, s11, _, _⟩ := itsF.get (k := 1) hs rfl
  obtain ⟨sb2, so2, p2, q2, ⟨e2, _⟩, s20, _, s22, hl⟩ := itsF.get (k := 2) hs rfl
  simp only [Option.some.injEq, Addr.mk.injEq, and_true] at e1 e2
  obtain ⟨rfl, rfl⟩ := e1
  obtain ⟨rfl, rfl⟩ := e2
  have hl' : itF F W (.list (x.logs.map Lg.item)) (.agg #[.bool true, .string ⟨#[]⟩, .slice p2 (x.logs.map Lg.item).length q2]) := hl
  rw [itF] at hl'
  obtain ⟨a, c, e, hc, hits⟩ := hl'
  simp only [Value.agg.injEq] at e
  have e := congrArg Array.toList e
  simp only [List.cons.injEq, and_true, Value.slice.injEq, true_and] at e
  obtain ⟨rfl, rfl⟩ := e
  rw [List.length_map] at hc
  have s22' : W.cell? ⟨sb, so + 6 + 2, none⟩ = some (.slice p2 (x.logs.map Lg.item).length q2) := s22
  rw [List.length_map] at s22'
  exact ⟨sb, so, vc, p2, q2, hv, ⟨hF, lt_of_cell s00⟩, ⟨s00, s01, s10, s11, s20, s22'⟩, hc, hits⟩
theorem rc_dep (x : Rc) : dep x.item < 12 := by
  have h1 : ∀ l : List Bs, deps (l.map .text) = 0 := fun l => by
    induction l with
    | nil => rfl
    | cons s l ih => simp [deps, dep, ih]
  have h2 : ∀ l : List Lg, deps (l.map Lg.item) ≤ 2 := fun l => by
    induction l with
    | nil => simp [deps]
    | cons y l ih => simp only [List.map_cons, deps, Lg.item, dep, h1] at ih ⊢; omega
  have := h2 x.logs
  simp only [Rc.item, dep, deps]
  omega
theorem good_ok (x : Rc) : okNum x.goodS := by
  unfold Rc.goodS
  split
  · exact ⟨by decide, fun t h => by cases h⟩
  · exact ⟨by decide, fun t h => by cases h⟩
theorem good_val (x : Rc) : valB x.goodS ≤ 1 ∧ (((valB x.goodS : Nat) : Int) == 1) = x.good := by
  unfold Rc.goodS
  cases x.good
  · exact ⟨by decide, rfl⟩
  · exact ⟨by decide, rfl⟩
/-- Between two rounds of ReceiptFrom. -/
structure fJ (N Br Bx : Nat) (W w0 : World) (x : Rc) (k : Nat) (X : World) : Prop where
  fr : Below N W X
  size : w0.heap.size ≤ X.heap.size
  keep : ∀ q, q < w0.heap.size → q ≠ Br → q ≠ Bx → cellsAt w0 q → X.heap[q]? = w0.heap[q]?
  row : ∃ v xs, X.heap[Br]? = some (.cells #[.bool x.good, .int .u64 (x.gas : Nat), v] 47 (0, 0)) ∧ X.ownsRow w0.heap.size 81 3 v k xs ∧ cellsG (fun q => w0.heap.size ≤ q ∧ v.ownBlock ≠ some q) X (x.logs.take k) xs
theorem fJ.keeps {N Br Bx : Nat} {W w0 X X' : World} {x : Rc} {k : Nat} (h : fJ N Br Bx W w0 x k X) (hne : Br ≠ Bx) (hx : Bx < w0.heap.size) (hb : Below N X X') (hk : ∀ q, q ≠ Bx → cellsAt X q → X'.heap[q]? = X.heap[q]?) : fJ N Br Bx W w0 x k X' := by
  obtain ⟨fr, hz, keep, v, xs, hv, hr, hc⟩ := h
  refine ⟨fr.trans hb, Nat.le_trans hz hb.size, fun q h1 h2 h3 h4 => ?_, v, xs, (hk _ hne ⟨_, _, _, hv⟩).trans hv, row_same hr fun g hg hcg => hk g ?_ hcg, hc.to fun q hq hcq => ⟨hq, hk q (by omega) hcq⟩⟩
  · have e := keep q h1 h2 h3 h4
    refine (hk q h3 ?_).trans e
    obtain ⟨c, t, f, e4⟩ := h4
    exact ⟨c, t, f, e.trans e4⟩
  · have := row_lt hr g hg
    omega
theorem fJ.items {N Br Bx : Nat} {W w0 X : World} {x : Rc} {k : Nat} {a : Option Addr} {i : Nat} {l : List It} (h : fJ N Br Bx W w0 x k X) (hi : itsF (fun q => q < w0.heap.size ∧ q ≠ Br ∧ q ≠ Bx) w0 a i l) : itsF (fun _ => True) X a i l :=
  hi.to fun q hq hc => ⟨trivial, h.keep q hq.1 hq.2.1 hq.2.2 hc⟩
set_option maxRecDepth 100000 in
set_option maxHeartbeats 16000000 in
theorem ReceiptFrom_any (x : Rc) (hr : x.right) (hg : x.gas < 18446744073709551616) (hz : (enc x.item).length ≤ 65536) (W : World) :
    Calls Tryz.prog 15 #[.string (bsS (enc x.item))] W fun e w' => ∃ v, e = .returned (.tuple #[v, .int .i64 0]) ∧ rcV (fun _ => True) w' v x ∧ Below W.heap.size W w' := by
  obtain ⟨i0, hi, hz0, hz1, hz2⟩ := info_parts infoLg
  have cD := fun w => Decode_any x.item (rc_dep x) hz w
  have cV0 := fun w => Value_any x.goodS (good_ok x) w
  have cV1 := fun w => Value_any (num x.gas) (num_ok x.gas) w
  rw [valB_num (by omega)] at cV1
  obtain ⟨hg1, hge⟩ := good_val x
  have hg1i := Lib.hid (show decide ((1 : Int) < ((valB x.goodS : Nat) : Int)) = false by rw [decide_eq_false_iff_not]; omega)
  have h20 := hr.2
  have h20i := Lib.hid (show decide ((20 : Int) < (x.logs.length : Int)) = false by rw [decide_eq_false_iff_not]; omega)
  have hN1 := heap_new (w := W) (o := .cells #[.bool false, .int .u64 0, .slice none 0 0] 47) rfl
  have zN : (W.alloc (.cells #[.bool false, .int .u64 0, .slice none 0 0] 47)).heap.size = W.heap.size + 1 := World.size_alloc _ _
  have bN : Below W.heap.size W (W.alloc (.cells #[.bool false, .int .u64 0, .slice none 0 0] 47)) := (Below.refl _ W).alloc (Nat.le_refl _) _
  generalize bsS (enc x.item) = E at *
  refine calls_FW (n := 9) ?_
  refine callsIn_of_wp_marks Tryz.func15 rfl trivial ?_ rfl
  simp only [Tryz.ntmps15, List.size_toArray, List.length_cons, List.length_nil, Nat.reduceAdd, Nat.reduceSub, Array.replicate_succ, Array.replicate_zero, List.push_toArray, List.append_toArray, List.nil_append, List.cons_append]
  gi_wp2
  refine wpIn_scope rfl ?_
  gi_wp2
  with_reducible refine (callsIn_FW (cD _)).mono ?_
  rintro e w2 ⟨v, rfl, hit, hb2⟩
  obtain ⟨sb, so, vc, p2, q2, rfl, ⟨hF, hsb⟩, hS, ⟨hq1, hq2⟩, hits⟩ := sub_of hit
  rw [zN] at hb2 hF
  have z2 := hb2.size
  rw [zN] at z2
  have zA : (w2.alloc (.cells #[.bool true, .string ⟨#[]⟩, .slice (some ⟨sb, so, none⟩) 3 vc] 51)).heap.size = w2.heap.size + 1 := World.size_alloc _ _
  have bA : Below w2.heap.size w2 (w2.alloc (.cells #[.bool true, .string ⟨#[]⟩, .slice (some ⟨sb, so, none⟩) 3 vc] 51)) := (Below.refl _ w2).alloc (Nat.le_refl _) _
  have hA : (w2.alloc (.cells #[.bool true, .string ⟨#[]⟩, .slice (some ⟨sb, so, none⟩) 3 vc] 51)).heap[w2.heap.size]? = some (.cells #[.bool true, .string ⟨#[]⟩, .slice (some ⟨sb, so, none⟩) 3 vc] 51 (0, 0)) := heap_new rfl
  have hN2 := (hb2.block W.heap.size (by omega)).trans hN1
  have hSA := hS.to (bA.block sb hsb)
  obtain ⟨a00, a01, a10, a11, a20, a22⟩ := id hSA
  obtain ⟨y0, y1, y2⟩ := cell3 hA
  have hitsh := Lib.hid hits
  have hb2h := Lib.hid hb2
  have hq1h := Lib.hid hq1
  clear hit hits hb2 hq1
  generalize hS0 : bsS x.goodS = S0 at *
  generalize hS1 : bsS (num x.gas) = S1 at *
  gi_wp2
  with_reducible refine (callsIn_FW (cV0 _)).mono ?_
  rintro e w3 ⟨rfl, hb3⟩
  rw [zA] at hb3
  have z3 := hb3.size
  have hN3 := (hb3.block W.heap.size (by omega)).trans ((bA.block W.heap.size (by omega)).trans hN2)
  have hA3 := (hb3.block w2.heap.size (by omega)).trans hA
  have hS3 := hS.to ((hb3.block sb (by omega)).trans (bA.block sb hsb))
  have zB : (w3.alloc (.cells #[.bool (decide ((1 : Int) < ((valB x.goodS : Nat) : Int)))] 4)).heap.size = w3.heap.size + 1 := World.size_alloc _ _
  have zC : ((w3.alloc (.cells #[.bool (decide ((1 : Int) < ((valB x.goodS : Nat) : Int)))] 4)).alloc (.cells #[.bool x.good, .int .u64 0, .slice none 0 0] 47)).heap.size = w3.heap.size + 2 := by rw [World.size_alloc, zB]
  have bC : Below w3.heap.size w3 ((w3.alloc (.cells #[.bool (decide ((1 : Int) < ((valB x.goodS : Nat) : Int)))] 4)).alloc (.cells #[.bool x.good, .int .u64 0, .slice none 0 0] 47)) := ((Below.refl _ w3).alloc (Nat.le_refl _) _).alloc (by omega) _
  have hAC : ((w3.alloc (.cells #[.bool (decide ((1 : Int) < ((valB x.goodS : Nat) : Int)))] 4)).alloc (.cells #[.bool x.good, .int .u64 0, .slice none 0 0] 47)).heap[w2.heap.size]? = some (.cells #[.bool true, .string ⟨#[]⟩, .slice (some ⟨sb, so, none⟩) 3 vc] 51 (0, 0)) := (bC.block w2.heap.size (by omega)).trans hA3
  have hSC := hS3.to (bC.block sb (by omega))
  have hBC0 : ((w3.alloc (.cells #[.bool (decide ((1 : Int) < ((valB x.goodS : Nat) : Int)))] 4)).alloc (.cells #[.bool x.good, .int .u64 0, .slice none 0 0] 47)).heap[w3.heap.size]? = some (.cells #[.bool (decide ((1 : Int) < ((valB x.goodS : Nat) : Int)))] 4 (0, 0)) := (Below.heap_alloc _ _ _ (by omega)).trans (heap_new rfl)
  have hRC : ((w3.alloc (.cells #[.bool (decide ((1 : Int) < ((valB x.goodS : Nat) : Int)))] 4)).alloc (.cells #[.bool x.good, .int .u64 0, .slice none 0 0] 47)).heap[w3.heap.size + 1]? = some (.cells #[.bool x.good, .int .u64 0, .slice none 0 0] 47 (0, 0)) := heap_new (by rw [zB])
  clear a00 a01 a10 a11 a20 a22 y0 y1 y2
  obtain ⟨_, _, y2⟩ := cell3 hAC
  have a11 := hSC.c11
  rw [hS1] at a11
  gi_wp2
  with_reducible refine (callsIn_FW (cV1 _)).mono ?_
  rintro e w4 ⟨rfl, hb4⟩
  have z4 := hb4.size
  rw [zC] at hb4 z4
  have hN4 := (hb4.block W.heap.size (by omega)).trans ((bC.block W.heap.size (by omega)).trans hN3)
  have hA4 := (hb4.block w2.heap.size (by omega)).trans hAC
  have hS4 := hSC.to (hb4.block sb (by omega))
  have hB4 := (hb4.block w3.heap.size (by omega)).trans hBC0
  rw [hg1i.out] at hB4
  have hR4 := (hb4.block (w3.heap.size + 1) (by omega)).trans hRC
  clear y2 a11 hBC0
  obtain ⟨r0, r1, r2⟩ := cell3 hR4
  have rf := Lib.frozen_of_heap hR4 1
  obtain ⟨w5, hw5⟩ : ∃ w5, w5 = w4.setCell ⟨w3.heap.size + 1, 1, none⟩ (.int .u64 (x.gas : Nat)) := ⟨_, rfl⟩
  have hA5 : w5.heap[w2.heap.size]? = some (.cells #[.bool true, .string ⟨#[]⟩, .slice (some ⟨sb, so, none⟩) 3 vc] 51 (0, 0)) := by rw [hw5]; exact (heap_set_ne (by omega)).trans hA4
  have hN5 : w5.heap[W.heap.size]? = some (.cells #[.bool false, .int .u64 0, .slice none 0 0] 47 (0, 0)) := by rw [hw5]; exact (heap_set_ne (by omega)).trans hN4
  have hS5 : subC x sb so p2 q2 w5 := hS4.to (by rw [hw5]; exact heap_set_ne (by omega))
  have hB5 : w5.heap[w3.heap.size]? = some (.cells #[.bool false] 4 (0, 0)) := by rw [hw5]; exact (heap_set_ne (by omega)).trans hB4
  have hR5 : w5.heap[w3.heap.size + 1]? = some (.cells #[.bool x.good, .int .u64 (x.gas : Nat), .slice none 0 0] 47 (0, 0)) := by
    rw [hw5, setCell_at hR4 1]
    rfl
  have z5 : w3.heap.size + 2 ≤ w5.heap.size := by rw [hw5, World.size_setCell]; exact z4
  have b5 : Below w2.heap.size w2 w5 := by
    rw [hw5]
    exact ((((bA.trans (hb3.mono (by omega))).trans (bC.mono (by omega))).trans (hb4.mono (by omega)))).setCell (p := ⟨w3.heap.size + 1, 1, none⟩) (show w2.heap.size ≤ w3.heap.size + 1 by omega) _
  have hbf := Lib.frozen_of_heap hB5 0
  have hb0 := Lib.cell_of_heap hB5 0
  simp only [List.getElem?_toArray, List.getElem?_cons_zero] at hb0
  obtain ⟨_, _, y2⟩ := cell3 hA5
  obtain ⟨a00, a01, a10, a11, a20, a22⟩ := id hS5
  rw [hw5] at y2 a22 hb0 hbf
  have hw5h := Lib.hid hw5
  clear hw5
  gi_wp2
  rw [h20i.out, ← hw5h.out]
  clear y2 a00 a01 a10 a11 a20 a22 hb0 hbf r0 r1 r2 rf
  obtain ⟨w6, hw6⟩ : ∃ w6, w6 = w5.setCell ⟨w3.heap.size, 0, none⟩ (.bool false) := ⟨_, rfl⟩
  rw [← hw6]
  have hA6 : w6.heap[w2.heap.size]? = some (.cells #[.bool true, .string ⟨#[]⟩, .slice (some ⟨sb, so, none⟩) 3 vc] 51 (0, 0)) := by rw [hw6]; exact (heap_set_ne (by omega)).trans hA5
  have hN6 : w6.heap[W.heap.size]? = some (.cells #[.bool false, .int .u64 0, .slice none 0 0] 47 (0, 0)) := by rw [hw6]; exact (heap_set_ne (by omega)).trans hN5
  have hS6 : subC x sb so p2 q2 w6 := hS5.to (by rw [hw6]; exact heap_set_ne (by omega))
  have hB6 : w6.heap[w3.heap.size]? = some (.cells #[.bool false] 4 (0, 0)) := by rw [hw6]; exact set_same hB5
  have hR6 : w6.heap[w3.heap.size + 1]? = some (.cells #[.bool x.good, .int .u64 (x.gas : Nat), .slice none 0 0] 47 (0, 0)) := by rw [hw6]; exact (heap_set_ne (by omega)).trans hR5
  have z6 : w3.heap.size + 2 ≤ w6.heap.size := by rw [hw6, World.size_setCell]; exact z5
  have b6 : Below w2.heap.size w2 w6 := by
    rw [hw6]
    exact b5.setCell (p := ⟨w3.heap.size, 0, none⟩) (show w2.heap.size ≤ w3.heap.size by omega) _
  clear hw6
  refine wpIn_label ?_
  have z0 : (w6.alloc (.cells #[.slice p2 x.logs.length q2] 49)).heap.size = w6.heap.size + 1 := World.size_alloc _ _
  have b0 : Below w6.heap.size w6 (w6.alloc (.cells #[.slice p2 x.logs.length q2] 49)) := (Below.refl _ w6).alloc (Nat.le_refl _) _
  have hX0 : (w6.alloc (.cells #[.slice p2 x.logs.length q2] 49)).heap[w6.heap.size]? = some (.cells #[.slice p2 x.logs.length q2] 49 (0, 0)) := heap_new rfl
  obtain ⟨_, _, y2⟩ := cell3 hA6
  have a22 := hS6.c22
  gi_wp2_with (gi_at_call 35; refine (callsIn_FW (logs_any _ _ _ _)).mono ?_; rintro e w' ⟨rfl, rfl⟩)
  generalize hw0 : (w6.alloc (.cells #[.slice p2 x.logs.length q2] 49)) = w0 at *
  replace z0 : w6.heap.size < w0.heap.size := by omega
  have hN0 := (b0.block W.heap.size (by omega)).trans hN6
  have hB0 := (b0.block w3.heap.size (by omega)).trans hB6
  have hR0 := (b0.block (w3.heap.size + 1) (by omega)).trans hR6
  have hbW : Below W.heap.size W w0 := (bN.trans (hb2h.out.mono (by omega))).trans ((b6.trans (b0.mono (by omega))).mono (by omega))
  have hitems : itsF (fun q => q < w0.heap.size ∧ q ≠ w3.heap.size + 1 ∧ q ≠ w6.heap.size) w0 p2 0 (x.logs.map Lg.item) := hitsh.out.to fun q hq hc => by
    have := hc.lt
    exact ⟨⟨by omega, by omega, by omega⟩, (b6.trans (b0.mono (by omega))).block q hc.lt⟩
  have hst : fJ W.heap.size (w3.heap.size + 1) w6.heap.size W w0 x 0 w0 := ⟨hbW, Nat.le_refl _, fun _ _ _ _ _ => rfl, _, [], hR0, World.ownsRow_nil _ _ _ _, rfl⟩
  have hl20 : x.logs.length ≤ 1000000 := by omega
  clear y2 a22 cD cV0 cV1 hS hSA hA hA3 hS3 hAC hSC hRC hA4 hS4 hB4 hR4 hA5 hS5 hB5 hR5 hA6 hS6 hB6 hR6 bN hN1 hN2 hN3 hN4 hN5 hN6
  refine wpIn_rangeFunc_box (by omega) (gf := 57) (lb := #[.pointer (some ⟨w6.heap.size, 0, none⟩)]) rfl trivial (enters_of Tryz.func57 (by kernel_rfl) rfl)
    x.logs.length w6.heap.size (by omega) (logY (w3.heap.size + 1) w0.heap.size x.logs) (fun k X vs h => by obtain ⟨y, v, _, rfl, _⟩ := h; rfl) (fun _ _ => True) (fJ W.heap.size (w3.heap.size + 1) w6.heap.size W w0 x)
    (fun k X Y h hb => h.keeps (by omega) (by omega) (hb.mono (by have := h.size; omega)) fun q _ hc => hb.block q hc.lt)
    (fun k l X Y h hl ht => h.keeps (by omega) (by omega) (turned_below ht (by omega)) fun q _ hc => ht.cellsAt hc)
    (fun k X v h => h.keeps (by omega) (by omega) ((Below.refl _ _).setCell (p := ⟨w6.heap.size, 0, none⟩) (show W.heap.size ≤ w6.heap.size by omega) _) fun q hq _ => heap_set_ne hq)
    (fun _ _ _ _ _ => trivial) (fun _ _ _ => trivial) (fun _ _ _ _ _ => trivial) hst ?hiter ?hround ?hdone
  case hiter =>
    intro l J X hJI hJb hJs hY hJ0 hbX
    exact logs_it 8 (by omega) l (w3.heap.size + 1) w0.heap.size w6.heap.size p2 q2 x.logs hr.1 hl20 J X hJb (fun k Y h => ⟨(hJI k Y h).items hitems, (hJI k Y h).size, by have := (hJI k Y h).size; omega⟩)
      (fun k Y hJ b g u hu q hq => by
        obtain ⟨_, _, _, v, xs, hv, hr, _⟩ := hJI k Y hJ
        rw [hv] at hu
        obtain ⟨rfl, rfl, rfl⟩ : Value.bool x.good = b ∧ Value.int .u64 (x.gas : Nat) = g ∧ v = u := by simpa using hu
        exact (row_lt hr q hq).2) hY hJ0 ((hbX.block _ (by omega)).trans hX0)
  case hround =>
    intro l k X vs hl hI hk hvs
    obtain ⟨y, v, hy, rfl, sv, rfl, hsv⟩ := hvs
    obtain ⟨ta, tc, hse, ⟨tc1, tc2⟩, _⟩ := id hsv
    rw [List.length_map] at hse
    subst hse
    gi_wp2
    refine ⟨(Below.refl _ X).alloc (Nat.le_refl _) _, fun W2 ht => ?_⟩
    obtain ⟨fr, hXz, keep, v, xs, hv, hrow, hcs⟩ := hI
    obtain ⟨va, vc', rfl, hvc1, hvc2⟩ := row_form hrow
    have hvl := row_lt hrow
    have n1 : W2.heap[X.heap.size]? = some (.cells #[.string (bsS y.a), .slice ta y.t.length tc, .string (bsS y.d)] 81 (0, 0)) := ht.cells (heap_new rfl) rfl
    have e2 : ∀ q, cellsAt X q → W2.heap[q]? = X.heap[q]? := fun q hq => by
      have h := Below.heap_alloc X (.cells #[.string (bsS y.a), .slice ta y.t.length tc, .string (bsS y.d)] 81) q hq.lt
      obtain ⟨cc, tt, ff, hh⟩ := hq
      rw [hh] at h ⊢
      exact ht.cells h rfl
    have b2 : Below W.heap.size X W2 := ((Below.refl _ X).alloc (by omega) _).trans (turned_below ht (by omega))
    have zz2 : X.heap.size + 1 ≤ W2.heap.size := (Array.getElem?_eq_some_iff.1 n1).1
    have v2 := (e2 _ ⟨_, _, _, hv⟩).trans hv
    have r2 := row_same hrow fun g hg hcg => e2 g hcg
    have hsv2 : rowF (fun q => w0.heap.size ≤ q ∧ (Value.slice va k vc').ownBlock ≠ some q) W2 (.slice ta y.t.length tc) (y.t.map tx) := hsv.to fun q hq hc => ⟨⟨hq.1, hq.2 _ _ _ hv⟩, e2 q hc⟩
    have cs2 := hcs.to (F' := fun q => w0.heap.size ≤ q ∧ (Value.slice va k vc').ownBlock ≠ some q) (W' := W2) fun q hq hc => ⟨hq, e2 q hc⟩
    have cs3 := Lib.hid (cs2.snoc hsv2)
    have hk20 : k ≤ 20 := by omega
    obtain ⟨_, _, g2⟩ := cell3 v2
    obtain ⟨p0, p1, p2⟩ := cell3 n1
    have r3 := r2.alloc (.cells #[.string (bsS y.a), .slice ta y.t.length tc, .string (bsS y.d)] 81)
    have zw7 : (W2.alloc (.cells #[.string (bsS y.a), .slice ta y.t.length tc, .string (bsS y.d)] 81)).heap.size = W2.heap.size + 1 := World.size_alloc _ _
    have hnew : ∀ (j : Nat) (u : Value), [Value.string (bsS y.a), .slice ta y.t.length tc, .string (bsS y.d)][j]? = some u → (W2.alloc (.cells #[.string (bsS y.a), .slice ta y.t.length tc, .string (bsS y.d)] 81)).cell? ((⟨W2.heap.size, 0, none⟩ : Addr).add j) = some u := fun j u hj => by
      rw [addr_add, Lib.cell_of_heap (heap_new rfl), Nat.zero_add]
      simpa using hj
    have hfrh := Lib.hid fr
    have hkeeph := Lib.hid keep
    clear hsv2 cs2 hcs hsv fr keep hv ht
    gi_wp2_with (gi_at_builtin; refine wpListIn_append_own_at _ rfl _ _ 45 rfl w0.heap.size 81 i0 (.agg #[.string ⟨#[]⟩, .slice none 0 0, .string ⟨#[]⟩]) 3 56 Tryz.underlying45 hi hz0 hz1 hz2 rfl (by decide) _ _ _ rfl r3 ⟨W2.heap.size, 0, none⟩ 1 1 [.string (bsS y.a), .slice ta y.t.length tc, .string (bsS y.d)] rfl rfl hnew (by simp [Value.oneCell']) (by unfold maxLen; omega) (by omega) (by omega) ?_; intro o7 w7 hown7 hgrow7 _ hat7; obtain ⟨a7, c7, rfl, _, _⟩ := row_form hown7; have v7 := (hgrow7.block (w3.heap.size + 1) (by omega) (fun e => by have := hvl _ e.symm; omega)).trans ((Below.heap_alloc W2 (.cells #[.string (bsS y.a), .slice ta y.t.length tc, .string (bsS y.d)] 81) _ (by omega)).trans v2); obtain ⟨_, _, t2⟩ := cell3 v7; have tf := Lib.frozen_of_heap v7 2)
    have hg7 := hgrow7.size
    rw [zw7] at hg7
    have hlt7 := row_lt hown7
    have hstay : ∀ q, cellsAt W2 q → q ≠ w3.heap.size + 1 → (Value.slice va k vc').ownBlock ≠ some q → (w7.setCell ⟨w3.heap.size + 1, 2, none⟩ (.slice a7 (k + 1) c7)).heap[q]? = W2.heap[q]? := fun q hc h1 h2 => (heap_set_ne h1).trans ((hgrow7.block q (by have := hc.lt; omega) (fun e => h2 e.symm)).trans (Below.heap_alloc W2 _ _ hc.lt))
    have B7 : Below W.heap.size W2 w7 := ((Below.refl _ W2).alloc (by omega) _).trans ⟨hgrow7.os, hgrow7.tape, hgrow7.output, hgrow7.size, fun g hg => hgrow7.block g (by omega) (fun e => by have := hvl g e.symm; omega)⟩
    refine ⟨keeps_set ((keeps_alloc _ _ _).trans (keeps_grown hgrow7 r3)) (by omega) _ _, hfrh.out.trans (b2.trans (B7.setCell (p := ⟨w3.heap.size + 1, 2, none⟩) (show W.heap.size ≤ w3.heap.size + 1 by omega) _)), by rw [World.size_setCell]; omega, fun q h1 h2 h3 h4 => ?_, _, _, ?_, row_same hown7 fun g hg _ => heap_set_ne (by have := hlt7 g hg; omega), ?_⟩
    · have e := hkeeph.out q h1 h2 h3 h4
      obtain ⟨c, t, f, e4⟩ := h4
      have e3 := e2 q ⟨c, t, f, e.trans e4⟩
      exact (hstay q ⟨c, t, f, e3.trans (e.trans e4)⟩ h2 (fun h => by have := hvl q h; omega)).trans (e3.trans e)
    · rw [setCell_at v7 2]
      rfl
    · rw [List.take_succ_eq_append_getElem hk, (List.getElem?_eq_some_iff.1 hy).2]
      refine cs3.out.to fun q hq hc => ⟨⟨hq.1, fun h => ?_⟩, hstay q hc (by omega) hq.2⟩
      rcases hat7 with e | e
      · exact hq.2 (e.symm.trans h)
      · rw [e] at h
        have := Option.some.inj h
        have := hc.lt
        omega
  case hdone =>
    intro D X hD hI hd
    obtain ⟨fr, hXz, keep, v, xs, hv, hrow, hcs⟩ := hI
    rw [List.take_length] at hcs
    have hlv : lgL (fun q => w0.heap.size ≤ q) X v x.logs := row_logs hrow hcs (fun q hq => hq.1) (fun q hq => hq)
    obtain ⟨la, lc, rfl, hlc, hlx⟩ := id hlv
    have hBX := (keep w3.heap.size (by omega) (by omega) (by omega) ⟨_, _, _, hB0⟩).trans hB0
    have hNX := (keep W.heap.size (by omega) (by omega) (by omega) ⟨_, _, _, hN0⟩).trans hN0
    have q0 := Lib.cell_of_heap hBX 0
    simp only [List.getElem?_toArray, List.getElem?_cons_zero] at q0
    obtain ⟨v0, v1, v2⟩ := cell3 hv
    obtain ⟨n0, n1, n2⟩ := cell3 hNX
    have f0 := Lib.frozen_of_heap hNX 0
    have f1 := Lib.frozen_of_heap hNX 1
    have f2 := Lib.frozen_of_heap hNX 2
    obtain ⟨Wf, hWf⟩ : ∃ Wf, Wf = ((X.setCell ⟨W.heap.size, 0, none⟩ (.bool x.good)).setCell ⟨W.heap.size, 1, none⟩ (.int .u64 (x.gas : Nat))).setCell ⟨W.heap.size, 2, none⟩ (.slice la x.logs.length lc) := ⟨_, rfl⟩
    have hd2 : Wf.heap[D]? = some (.deferred (some [])) := by
      rw [hWf]
      exact (heap_set_ne (by omega)).trans ((heap_set_ne (by omega)).trans ((heap_set_ne (by omega)).trans hd))
    have hput : Wf.heap[W.heap.size]? = some (.cells #[.bool x.good, .int .u64 (x.gas : Nat), .slice la x.logs.length lc] 47 (0, 0)) := by
      rw [hWf, setCell_at (setCell_at (setCell_at hNX 0 _) 1 _) 2]
      rfl
    have bf : Below W.heap.size W Wf := by
      rw [hWf]
      exact ((fr.setCell (p := ⟨W.heap.size, 0, none⟩) (Nat.le_refl _) _).setCell (p := ⟨W.heap.size, 1, none⟩) (Nat.le_refl _) _).setCell (p := ⟨W.heap.size, 2, none⟩) (Nat.le_refl _) _
    have hT : recTurned D Wf (Wf.putObj D (.deferred none)) := ⟨_, _, hd2, rfl, rfl⟩
    have hputT := hT.cells hput rfl
    obtain ⟨u0, u1, u2⟩ := cell3 hputT
    have eX : ∀ q, cellsAt X q → w0.heap.size ≤ q → (Wf.putObj D (.deferred none)).heap[q]? = X.heap[q]? := fun q hc h1 => by
      have e : Wf.heap[q]? = X.heap[q]? := by
        rw [hWf]
        exact (heap_set_ne (by omega)).trans ((heap_set_ne (by omega)).trans (heap_set_ne (by omega)))
      obtain ⟨c, t, f, e4⟩ := hc
      exact (hT.cellsAt ⟨c, t, f, e.trans e4⟩).trans e
    have hlv2 := Lib.hid (hlv.to (F' := fun _ => True) (W' := Wf.putObj D (.deferred none)) fun q hq hc => ⟨trivial, eX q hc hq⟩)
    have hWfh := Lib.hid hWf
    clear hWf hlv hlx hrow hcs keep fr
    gi_wp2
    rw [← hWfh.out]
    refine ⟨by simp, .inl ⟨_, _, rfl, run_takeDeferred hd2, _, (by simp only [results, Tryz.results15]; go_simp; try rfl), _, rfl, ?_, ?_⟩⟩
    · exact ⟨_, rfl, hlv2.out⟩
    · exact bf.trans (turned_below hT (by omega))
end Go.Proofs.YtijidnhaijdfaaaGreatDoor
