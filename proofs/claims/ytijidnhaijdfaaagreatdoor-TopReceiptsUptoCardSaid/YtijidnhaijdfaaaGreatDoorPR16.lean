/-
  Things one behind the other: items, all. Conditions: the bytes are those of things.
-/
import Derived.RangeFuncBox
import Derived.LoopNIn
import Derived.LoopIn
import Derived.WalkMore
import Derived.Maps.AppendAt
import Derived.Test.YtijidnhaijdfaaaGreatDoorScope
import Derived.Test.YtijidnhaijdfaaaGreatDoorPR13
import Derived.Test.YtijidnhaijdfaaaGreatDoorPR11
import Derived.Test.YtijidnhaijdfaaaGreatDoorPR14
import Derived.Test.YtijidnhaijdfaaaGreatDoorRLoop
import Derived.Test.YtijidnhaijdfaaaGreatDoorPR15
import Derived.Test.YtijidnhaijdfaaaGreatDoorPR4
namespace Go.Proofs.YtijidnhaijdfaaaGreatDoor
open Go.RowKit
attribute [local go_sem] leftBy leaves Oper.semAt_some
set_option linter.unusedSimpArgs false
set_option linter.unusedVariables false

def allP (l : List It) : Prop := ∀ W : World, Calls Tryz.prog 48 #[.string (bsS (encs l))] W fun e w' => ∃ a c, e = .returned (.tuple #[.slice a l.length c, .bool true]) ∧ (l.length ≤ c ∧ c ≤ maxLen) ∧ itsF (fun q => W.heap.size ≤ q) w' a 0 l ∧ Below W.heap.size W w'
/-- New blocks that are not the list's own. -/
def freshF (B : Nat) (W : World) (q : Nat) : Prop := B + 3 ≤ q ∧ ∀ u, W.heap[B]? = some (.cells #[u] 49 (0, 0)) → u.ownBlock ≠ some q
def itemY (B : Nat) (L : List It) (k : Nat) (W : World) (vs : Array Value) : Prop := ∃ x v, L[k]? = some x ∧ vs = #[v, .bool true] ∧ itF (freshF B W) W x v
def boxK (Bs : Nat) (W W' : World) : Prop := ∀ o, W.heap[Bs]? = some o → W'.heap[Bs]? = some o
def boxLen (Bs : Nat) (W : World) : Nat := match W.heap[Bs]? with
  | some (.cells c _ _) => match c[0]? with
    | some (Value.string s) => s.size
    | _ => 0
  | _ => 0
theorem boxLen_of {Bs : Nat} {W : World} {s : ByteArray} {t : TypeId} {f : Nat × Nat} (h : W.heap[Bs]? = some (.cells #[.string s] t f)) : boxLen Bs W = s.size := by
  unfold boxLen
  rw [h]
  rfl
set_option maxRecDepth 100000 in
set_option maxHeartbeats 8000000 in
theorem items_it (n : Nat) (hn : 1 ≤ n) (l B0 Bs : Nat) (hBB : B0 + 2 ≤ Bs) (L : List It) (hL : (encs L).length ≤ 1000000) (hA : ∀ m, .list m ∈ L → allP m) (J : Nat → World → Prop) (W : World)
    (hJb : ∀ k W W', J k W → Below W.heap.size W W' → J k W') (hJs : ∀ k W v, J k W → J k (W.setCell ⟨Bs, 0, none⟩ v))
    (hJv : ∀ k W, J k W → ∀ u, W.heap[B0]? = some (.cells #[u] 49 (0, 0)) → ∀ g, u.ownBlock = some g → g < W.heap.size)
    (hY : ∀ k W1 vs, J k W1 → k < L.length → itemY B0 L k W1 vs → YieldAt (FW none) (n - 1) Tryz.prog l vs W1 fun e W' => e = .returned (.bool true) ∧ J (k + 1) W' ∧ boxK Bs W1 W')
    (h0 : J 0 W) (hs : W.heap[Bs]? = some (.cells #[.string (bsS (encs L))] 9 (0, 0))) :
    CallsIn (FW none) n Tryz.prog 89 #[.func (.yield l) #[] #[], .pointer (some ⟨Bs, 0, none⟩)] W fun e W' => (∃ v, e = .returned v) ∧ J L.length W' := by
  refine callsIn_of_wp Tryz.func89 rfl trivial ?_ rfl
  simp only [Tryz.ntmps89, List.size_toArray, List.length_cons, List.length_nil, Nat.reduceAdd, Nat.reduceSub, Array.replicate_succ, Array.replicate_zero, List.push_toArray, List.append_toArray, List.nil_append, List.cons_append]
  gi_wp2
  gi_loopw [] (fun wr => ∃ k : Nat, k ≤ L.length ∧ J k wr ∧ wr.heap[Bs]? = some (.cells #[.string (bsS (encs (L.drop k)))] 9 (0, 0))) (fun wr => boxLen Bs wr)
  case atStart => exact ⟨0, Nat.zero_le _, h0, hs⟩
  case round =>
    obtain ⟨k, hk, hJ, hsk⟩ := hrel
    have hcs := Lib.cell_of_heap hsk 0
    have hfs := Lib.frozen_of_heap hsk 0
    by_cases hkl : k < L.length
    · obtain ⟨x, hx⟩ : ∃ x, L[k]? = some x := ⟨_, List.getElem?_eq_getElem hkl⟩
      have hd : encs (L.drop k) = enc x ++ encs (L.drop (k + 1)) := by
        rw [List.drop_eq_getElem_cons hkl, (List.getElem?_eq_some_iff.1 hx).2, encs]
      have hlen : (encs (L.drop k)).length ≤ 1000000 := by
        have := congrArg List.length (encs_append (L.take k) (L.drop k))
        rw [List.take_append_drop, List.length_append] at this
        omega
      rw [hd] at hlen hcs
      have cC := fun w => cut_any x (encs (L.drop (k + 1))) hlen w
      have hne : (bsS (enc x ++ encs (L.drop (k + 1)))).toList.isEmpty = false := by
        have hp := enc_pos x
        rw [bsS_list]
        cases hq : enc x with
        | nil => rw [hq] at hp; simp at hp
        | cons b t => rfl
      simp only [List.getElem?_toArray, List.getElem?_cons_zero] at hcs
      have hlt := (Array.getElem?_eq_some_iff.1 hsk).1
      have hJB := hJv k wr hJ
      -- the rest of a round
      cases x with
      | text t =>
        have hYk : ∀ w1, Below wr.heap.size wr w1 → YieldAt (FW none) (n - 1) Tryz.prog l #[.agg #[.bool false, .string (bsS t), .slice none 0 0], .bool true] ((w1.setCell ⟨Bs, 0, none⟩ (.string (bsS (encs (L.drop (k + 1)))))).alloc (.cells #[.bool false, .string (bsS t), .slice none 0 0] 51)) fun e W' => e = .returned (.bool true) ∧ J (k + 1) W' ∧ boxK Bs ((w1.setCell ⟨Bs, 0, none⟩ (.string (bsS (encs (L.drop (k + 1)))))).alloc (.cells #[.bool false, .string (bsS t), .slice none 0 0] 51)) W' := fun w1 hb =>
          hY k _ _ (hJb k _ _ (hJs k _ _ (hJb k wr _ hJ hb)) ((Below.refl _ _).alloc (Nat.le_refl _) _)) hkl ⟨.text t, _, hx, rfl, rfl⟩
        have hB1 : ∀ w1, Below wr.heap.size wr w1 → ((w1.setCell ⟨Bs, 0, none⟩ (.string (bsS (encs (L.drop (k + 1)))))).alloc (.cells #[.bool false, .string (bsS t), .slice none 0 0] 51)).heap[Bs]? = some (.cells #[.string (bsS (encs (L.drop (k + 1))))] 9 (0, 0)) := fun w1 hb => by
          have h1 : w1.heap[Bs]? = _ := (hb.block Bs hlt).trans hsk
          refine heap_old (by rw [World.size_setCell]; exact Nat.lt_of_lt_of_le hlt hb.size) ?_
          rw [setCell_at h1 0]
          rfl
        simp only [pay, isL] at cC
        have hYh := Lib.hid hYk
        have hBh := Lib.hid hB1
        have hJh := Lib.hid hJB
        clear hY hJb hJs hJv hA hYk hB1 hJB
        generalize bsS (enc (.text t) ++ encs (L.drop (k + 1))) = S at hne hcs cC hBh
        generalize hRe : bsS (encs (L.drop (k + 1))) = R at hYh cC hBh
        have hRe := Lib.hid hRe
        refine wpIn_hide fun QQ hQQ => ?_
        gi_wp2_with (gi_at_call 90; (with_reducible refine (callsIn_FW (cC _)).mono ?_); rintro e w1 ⟨rfl, hb1⟩; obtain ⟨fn, tmps, assign, body, hy, hR⟩ := hYh.out w1 hb1; have hB2 := hBh.out w1 hb1; have hc2 := (hb1.cell (p := ⟨Bs, 0, none⟩) hlt).trans hcs; have hz := hb1.size; have hf2 := (hb1.frozen (p := ⟨Bs, 0, none⟩) hlt).trans hfs; have hlB : Bs < w1.heap.size := Nat.lt_of_lt_of_le hlt hz)
        refine hR.mono ?_
        rintro e W3 ⟨rfl, hJ3, hK3⟩
        gi_wp2
        refine hQQ.out _ _ _ ?_
        simp only [Exit.then, Exit.inBlock]
        go_roundw
        case rel => exact ⟨k + 1, by omega, hJ3, by rw [hRe.out]; exact hK3 _ hB2⟩
        case measure =>
          rw [boxLen_of hsk, boxLen_of (hK3 _ hB2), hd, ← hRe.out, bsS_size, bsS_size, List.length_append]
          have := enc_pos (.text t)
          omega
      | list m =>
        have hAm := hA m (List.mem_of_getElem? hx)
        unfold allP at hAm
        have hYk : ∀ w1 w3 a c, Below wr.heap.size wr w1 → Below (w1.heap.size + 1) (w1.alloc (.cells #[.bool true, .string ⟨#[]⟩, .slice none 0 0] 51)) w3 → (m.length ≤ c ∧ c ≤ maxLen) → itsF (fun q => w1.heap.size + 1 ≤ q) w3 a 0 m →
            YieldAt (FW none) (n - 1) Tryz.prog l #[.agg #[.bool true, .string ⟨#[]⟩, .slice a m.length c], .bool true] ((w3.setCell ⟨w1.heap.size, 2, none⟩ (.slice a m.length c)).setCell ⟨Bs, 0, none⟩ (.string (bsS (encs (L.drop (k + 1)))))) fun e W' => e = .returned (.bool true) ∧ J (k + 1) W' ∧ boxK Bs ((w3.setCell ⟨w1.heap.size, 2, none⟩ (.slice a m.length c)).setCell ⟨Bs, 0, none⟩ (.string (bsS (encs (L.drop (k + 1)))))) W' := fun w1 w3 a c hb hb3 hc hits => by
          have hz := hb.size
          have hall : Below wr.heap.size wr (w3.setCell ⟨w1.heap.size, 2, none⟩ (.slice a m.length c)) := ((hb.alloc hb.size _).trans (hb3.mono (by omega))).setCell (p := ⟨w1.heap.size, 2, none⟩) hz _
          have hfin : itsF (freshF B0 ((w3.setCell ⟨w1.heap.size, 2, none⟩ (.slice a m.length c)).setCell ⟨Bs, 0, none⟩ (.string (bsS (encs (L.drop (k + 1))))))) ((w3.setCell ⟨w1.heap.size, 2, none⟩ (.slice a m.length c)).setCell ⟨Bs, 0, none⟩ (.string (bsS (encs (L.drop (k + 1)))))) a 0 m := by
            refine hits.to fun q hq hcq => ?_
            refine ⟨⟨by omega, ?_⟩, ?_⟩
            · intro u hu e
              have hu2 : wr.heap[B0]? = some (.cells #[u] 49 (0, 0)) := by
                rw [heap_set_ne (show B0 ≠ Bs by omega), hall.block B0 (by omega)] at hu
                exact hu
              have := hJB u hu2 q e
              omega
            · rw [heap_set_ne (show q ≠ Bs by omega), heap_set_ne (show q ≠ w1.heap.size by omega)]
          exact hY k _ _ (hJs k _ _ (hJb k wr _ hJ hall)) hkl ⟨.list m, _, hx, rfl, a, c, rfl, hc, hfin⟩
        have hB1 : ∀ w1 w3 v, Below wr.heap.size wr w1 → Below (w1.heap.size + 1) (w1.alloc (.cells #[.bool true, .string ⟨#[]⟩, .slice none 0 0] 51)) w3 → w3.heap[Bs]? = some (.cells #[.string (bsS (enc (.list m) ++ encs (L.drop (k + 1))))] 9 (0, 0)) ∧ ((w3.setCell ⟨w1.heap.size, 2, none⟩ v).setCell ⟨Bs, 0, none⟩ (.string (bsS (encs (L.drop (k + 1)))))).heap[Bs]? = some (.cells #[.string (bsS (encs (L.drop (k + 1))))] 9 (0, 0)) ∧
            w3.heap[w1.heap.size]? = some (.cells #[.bool true, .string ⟨#[]⟩, .slice none 0 0] 51 (0, 0)) := fun w1 w3 v hb hb3 => by
          have hz := hb.size
          have h1 : w1.heap[Bs]? = _ := (hb.block Bs hlt).trans hsk
          have h3 : w3.heap[Bs]? = _ := (hb3.block Bs (by omega)).trans ((Below.heap_alloc _ _ _ (by omega)).trans h1)
          have h4 : (w3.setCell ⟨w1.heap.size, 2, none⟩ v).heap[Bs]? = _ := (heap_set_ne (show Bs ≠ w1.heap.size by omega)).trans h3
          rw [hd] at h3
          refine ⟨h3, ?_, (hb3.block _ (by omega)).trans (heap_new rfl)⟩
          rw [setCell_at h4 0]
          rfl
        simp only [pay, isL] at cC
        have hYh := Lib.hid hYk
        have hBh := Lib.hid hB1
        have hJh := Lib.hid hJB
        clear hY hJb hJs hJv hA hYk hB1 hJB
        generalize bsS (enc (.list m) ++ encs (L.drop (k + 1))) = S at hne hcs cC hBh
        generalize hRe : bsS (encs (L.drop (k + 1))) = R at hYh cC hBh
        have hRe := Lib.hid hRe
        refine wpIn_hide fun QQ hQQ => ?_
        gi_wp2_with (first | (gi_at_call 90; (with_reducible refine (callsIn_FW (cC _)).mono ?_); rintro e w1 ⟨rfl, hb1⟩; have hc2 := (hb1.cell (p := ⟨Bs, 0, none⟩) hlt).trans hcs; have hz := hb1.size; have hf2 := (hb1.frozen (p := ⟨Bs, 0, none⟩) hlt).trans hfs; have hlB : Bs < w1.heap.size := Nat.lt_of_lt_of_le hlt hz) | (gi_at_call 48; (with_reducible refine (callsIn_FW (hAm _)).mono ?_); rintro e w3 ⟨a, c, rfl, hc, hits, hb3⟩; rw [World.size_alloc] at hits hb3; obtain ⟨fn, tmps, assign, body, hy, hR⟩ := hYh.out w1 w3 a c hb1 hb3 hc hits; obtain ⟨hB3, hB2, hX3⟩ := hBh.out w1 w3 (.slice a m.length c) hb1 hb3; have hz3 := hb3.size; rw [World.size_alloc] at hz3; have hlB3 : Bs < w3.heap.size := (by omega); have hlX : w1.heap.size < w3.heap.size := (by omega); have hneX : Bs ≠ w1.heap.size := (by omega); obtain ⟨x0, x1, x2⟩ := cell3 hX3; have y0 : w3.cell? ⟨Bs, 0, none⟩ = some _ := Lib.cell_of_heap hB3 0; have yf := Lib.frozen_of_heap hB3 0; have xf := Lib.frozen_of_heap hX3 2))
        refine hR.mono ?_
        rintro e W4 ⟨rfl, hJ4, hK4⟩
        gi_wp2
        refine hQQ.out _ _ _ ?_
        simp only [Exit.then, Exit.inBlock]
        go_roundw
        case rel => exact ⟨k + 1, by omega, hJ4, by rw [hRe.out]; exact hK4 _ hB2⟩
        case measure =>
          rw [boxLen_of hsk, boxLen_of (hK4 _ hB2), hd, ← hRe.out, bsS_size, bsS_size, List.length_append]
          have := enc_pos (.list m)
          omega
    · obtain rfl : k = L.length := by omega
      rw [List.drop_length] at hcs
      have hne : (bsS (encs [])).toList.isEmpty = true := by rw [bsS_list]; rfl
      gi_wp2
      go_end0
      exact ⟨⟨_, rfl⟩, hJ⟩
end Go.Proofs.YtijidnhaijdfaaaGreatDoor
