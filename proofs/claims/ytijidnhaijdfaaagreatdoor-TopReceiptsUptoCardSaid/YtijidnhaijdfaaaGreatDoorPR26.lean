/-
  Texts of one proof, one behind the other. Conditions: each text's own line says them.
-/
import Derived.Test.YtijidnhaijdfaaaGreatDoorPR25
import Derived.Test.YtijidnhaijdfaaaGreatDoorMMap
import Derived.WalkMore
import Derived.Test.YtijidnhaijdfaaaGreatDoorKShelf
import Derived.RangeFuncBound
import Derived.LoopNIn
import Derived.LoopIn
import Derived.Test.YtijidnhaijdfaaaGreatDoorPR16

/- Which pairs are right: Right. Conditions: none. -/
namespace Go.Proofs.YtijidnhaijdfaaaGreatDoor
open Go.RowKit Go.Maps
attribute [local go_sem] leftBy leaves
set_option linter.unusedSimpArgs false
set_option linter.unusedVariables false

def okk (x : Lf) : Prop := x.1 ≠ [] ∧ x.1.length ≤ 64 ∧ x.2 ≠ [] ∧ x.2.length ≤ 1000
def rightP (L : List Lf) : Prop := (∀ x ∈ L, okk x) ∧ (L.map (·.1)).Nodup ∧ L.length ≤ 200
instance (x : Lf) : Decidable (okk x) := inferInstanceAs (Decidable (_ ∧ _ ∧ _ ∧ _))
instance (L : List Lf) : Decidable (rightP L) := inferInstanceAs (Decidable (_ ∧ _ ∧ _))
def seenF (L : List Lf) (s : ByteArray) : Option Value := if s.data.toList ∈ L.map (fun x : Lf => x.1) then some (.bool true) else none
theorem nodup_snoc {L : List Bs} {x : Bs} (h : L.Nodup) (hx : x ∉ L) : (L ++ [x]).Nodup := by
  rw [List.nodup_append]
  exact ⟨h, (List.pairwise_singleton _ x), fun a ha b hb => by rw [List.mem_singleton.1 hb]; exact fun e => hx (e ▸ ha)⟩
theorem zeroB (w : World) : (zeroValue 4).run Tryz.prog w = .ok (.bool false) w := by kernel_rfl
set_option maxRecDepth 100000 in
set_option maxHeartbeats 8000000 in
theorem Right_any (v : Value) (L : List Lf) (W : World) (hv : lvF (fun _ => True) W v L) (hL : L.length ≤ 100000) (hs : ∀ x ∈ L, x.1.length ≤ 1000000) :
    Calls Tryz.prog 8 #[v] W fun e w' => e = .returned (.bool (decide (rightP L))) ∧ Below W.heap.size W w' := by
  have hvv := hv
  obtain ⟨a, c, rfl, hc, hx⟩ := hv
  clear hx hc
  have hmm := @run_makeMap Tryz.prog
  go_enter Tryz.func8, Tryz.ntmps8
  go_wp2
  have hL2 : L.length ≤ 100000 := hL
  have b0 : Below W.heap.size W (W.alloc (.map #[] 0)) := (Below.refl _ W).alloc (Nat.le_refl _) _
  have m0 : MV (W.alloc (.map #[] 0)) 9 Value.string okT W.heap.size 0 (.bool false) (seenF []) := (MV.made W).ext fun s _ => by unfold seenF; rw [List.map_nil, if_neg List.not_mem_nil]
  generalize W.alloc (.map #[] 0) = W0 at *
  go_loopw [9] (fun x wr => ∃ i : Nat, i ≤ L.length ∧ x = .int .i64 (i : Nat) ∧ (∀ y ∈ L.take i, okk y) ∧ ((L.take i).map (·.1)).Nodup ∧ MV wr 9 Value.string okT W.heap.size i (.bool false) (seenF (L.take i)) ∧ Below W.heap.size W wr) (fun x _ => L.length - (intOf x).toNat)
  case atStart => exact ⟨0, Nat.zero_le _, rfl, (fun y h => by cases h), List.nodup_nil, m0, b0⟩
  case round =>
    obtain ⟨i, hil, rfl, hok, hnd, hmv, hbel⟩ := hrel
    by_cases hlt : i < L.length
    · obtain ⟨x, hx⟩ : ∃ x, L[i]? = some x := ⟨_, List.getElem?_eq_getElem hlt⟩
      have hxm := List.mem_of_getElem? hx
      have hs1 := hs x hxm
      obtain ⟨bl, o, ⟨rfl, _⟩, c0, c1⟩ : ∃ bl o, (a = some ⟨bl, o, none⟩ ∧ True) ∧ wr.cell? ⟨bl, o + i * 2, none⟩ = some (.string (bsS x.1)) ∧ wr.cell? ⟨bl, o + i * 2 + 1, none⟩ = some (.string (bsS x.2)) := by
        obtain ⟨a', c', hv', _, hcell⟩ := hvv.below hbel
        obtain ⟨rfl, rfl⟩ : a = a' ∧ c = c' := by simpa using hv'
        exact hcell i x hx
      have hlti : (i : Int) < (L.length : Int) := by omega
      have hokT : okT (bsS x.1) := by
        unfold okT
        rw [bsS_size]
        unfold maxLen
        omega
      have hlk := fun w h => hmv.look1 (W' := w) keyT Tryz.underlying66 zeroB (bsS x.1) hokT h
      have y0 : (wr.alloc (.cells #[.string (bsS x.1), .string (bsS x.2)] 36)).cell? ⟨wr.heap.size, 0, none⟩ = some (.string (bsS x.1)) := by rw [Lib.cell_of_heap (heap_new rfl)]; rfl
      have y1 : (wr.alloc (.cells #[.string (bsS x.1), .string (bsS x.2)] 36)).cell? ⟨wr.heap.size, 1, none⟩ = some (.string (bsS x.2)) := by rw [Lib.cell_of_heap (heap_new rfl)]; rfl
      have hlk5 := hlk (wr.alloc (.cells #[.string (bsS x.1), .string (bsS x.2)] 36)) (Below.heap_alloc _ _ _ hmv.lt)
      have b5 : Below W.heap.size W (wr.alloc (.cells #[.string (bsS x.1), .string (bsS x.2)] 36)) := hbel.alloc hbel.size _
      have m5 := hmv.at_block (Below.heap_alloc wr (.cells #[.string (bsS x.1), .string (bsS x.2)] 36) _ hmv.lt)
      have hz1 := bsS_size x.1
      have hz2 := bsS_size x.2
      refine wp_hide fun QQ hQQ => ?_
      have hvh := Lib.hid hvv
      have hmh := Lib.hid m5
      clear hvv hmv hlk m5 m0 b0
      have hret : ¬ (okk x ∧ x.1 ∉ (L.take i).map (·.1)) → decide (rightP L) = false := fun h => by
        rw [decide_eq_false_iff_not]
        rintro ⟨h1, h2, _⟩
        refine h ⟨h1 x hxm, fun h3 => ?_⟩
        have h4 : (L.take (i + 1)).map (·.1) = (L.take i).map (·.1) ++ [x.1] := by
          rw [List.take_succ_eq_append_getElem hlt, (List.getElem?_eq_some_iff.1 hx).2, List.map_append]
          rfl
        have h5 : ((L.take (i + 1)).map (·.1)).Nodup := h2.sublist ((List.take_sublist _ _).map _)
        rw [h4, List.nodup_append] at h5
        exact h5.2.2 _ h3 _ (List.mem_cons_self ..) rfl
      have hsv : (seenF (L.take i) (bsS x.1)).getD (.bool false) = .bool (decide (x.1 ∈ (L.take i).map (·.1))) := by
        show (if x.1 ∈ (L.take i).map (fun x : Lf => x.1) then some (Value.bool true) else none).getD (.bool false) = _
        by_cases h : x.1 ∈ (L.take i).map (·.1)
        · rw [if_pos h, decide_eq_true h]
          rfl
        · rw [if_neg h, decide_eq_false h]
          rfl
      rw [hsv] at hlk5
      clear hsv
      by_cases h1 : x.1 = []
      · have e1 : (bsS x.1).toList.isEmpty = true := by rw [bsS_list, h1]; rfl
        have hr := hret fun h => h.1.1 h1
        clear hret h1
        go_wp2
        go_wp2
        refine hQQ.out _ _ _ ?_
        simp only [Exit.then, Exit.inBlock]
        exact bodyPost_ret (v := .bool false) (by simp only [results, Tryz.results8]; go_simp; try rfl) rfl ⟨by rw [hr], b5⟩
      have e1 : (bsS x.1).toList.isEmpty = false := by
        rw [bsS_list]
        cases hq : x.1 with
        | nil => exact absurd hq h1
        | cons _ _ => rfl
      by_cases h2 : 64 < x.1.length
      · have e2 : (64 : Int) < (x.1.length : Int) := by omega
        have hr := hret fun h => by have := h.1.2.1; omega
        clear hret
        go_wp2
        go_wp2
        refine hQQ.out _ _ _ ?_
        simp only [Exit.then, Exit.inBlock]
        exact bodyPost_ret (v := .bool false) (by simp only [results, Tryz.results8]; go_simp; try rfl) rfl ⟨by rw [hr], b5⟩
      have e2 : ¬ (64 : Int) < (x.1.length : Int) := by omega
      by_cases h3 : x.2 = []
      · have e3 : (bsS x.2).toList.isEmpty = true := by rw [bsS_list, h3]; rfl
        have hr := hret fun h => h.1.2.2.1 h3
        clear hret h3
        go_wp2
        go_wp2
        refine hQQ.out _ _ _ ?_
        simp only [Exit.then, Exit.inBlock]
        exact bodyPost_ret (v := .bool false) (by simp only [results, Tryz.results8]; go_simp; try rfl) rfl ⟨by rw [hr], b5⟩
      have e3 : (bsS x.2).toList.isEmpty = false := by
        rw [bsS_list]
        cases hq : x.2 with
        | nil => exact absurd hq h3
        | cons _ _ => rfl
      by_cases h4 : 1000 < x.2.length
      · have e4 : (1000 : Int) < (x.2.length : Int) := by omega
        have hr := hret fun h => by have := h.1.2.2.2; omega
        clear hret
        go_wp2
        go_wp2
        refine hQQ.out _ _ _ ?_
        simp only [Exit.then, Exit.inBlock]
        exact bodyPost_ret (v := .bool false) (by simp only [results, Tryz.results8]; go_simp; try rfl) rfl ⟨by rw [hr], b5⟩
      have e4 : ¬ (1000 : Int) < (x.2.length : Int) := by omega
      by_cases h5 : x.1 ∈ (L.take i).map (·.1)
      · rw [decide_eq_true h5] at hlk5
        have hr := hret fun h => h.2 h5
        clear hret
        go_wp2
        go_wp2
        refine hQQ.out _ _ _ ?_
        simp only [Exit.then, Exit.inBlock]
        exact bodyPost_ret (v := .bool false) (by simp only [results, Tryz.results8]; go_simp; try rfl) rfl ⟨by rw [hr], b5⟩
      rw [decide_eq_false h5] at hlk5
      obtain ⟨w6, hput, m6, hg6⟩ := hmh.out.put keyT Tryz.underlying66 (by unfold maxLen; omega) (bsS x.1) hokT (.bool true)
      clear hret
      have hs5 := b5.size
      have b6 : Below W.heap.size W w6 := b5.trans ⟨hg6.os, hg6.tape, hg6.output, hg6.size, fun q hq => hg6.block q (Nat.lt_of_lt_of_le hq hs5) (fun e => by have := Option.some.inj e; omega)⟩
      have hm6 : MV w6 9 Value.string okT W.heap.size (i + 1) (.bool false) (seenF (L.take (i + 1))) := m6.ext fun s _ => by
        have h6 : (L.take (i + 1)).map (fun x : Lf => x.1) = (L.take i).map (fun x : Lf => x.1) ++ [x.1] := by
          rw [List.take_succ_eq_append_getElem hlt, (List.getElem?_eq_some_iff.1 hx).2, List.map_append]
          rfl
        unfold seenF
        rw [h6]
        by_cases e : s = bsS x.1
        · subst e
          have h7 : (bsS x.1).data.toList ∈ (L.take i).map (fun x : Lf => x.1) ++ [x.1] := List.mem_append.2 (.inr (List.mem_singleton.2 rfl))
          rw [if_pos rfl, if_pos h7]
        · rw [if_neg e]
          have e2 : s.data.toList ≠ x.1 := fun e3 => e (by rw [← e3]; rfl)
          by_cases e4 : s.data.toList ∈ (L.take i).map (fun x : Lf => x.1)
          · rw [if_pos e4, if_pos (List.mem_append.2 (.inl e4))]
          · rw [if_neg e4, if_neg fun h => by
              rcases List.mem_append.1 h with h | h
              · exact e4 h
              · exact e2 (List.mem_singleton.1 h)]
      have hok6 : ∀ y ∈ L.take (i + 1), okk y := fun y hy => by
        rw [List.take_succ_eq_append_getElem hlt, (List.getElem?_eq_some_iff.1 hx).2] at hy
        rcases List.mem_append.1 hy with h | h
        · exact hok y h
        · rw [List.mem_singleton.1 h]
          exact ⟨h1, by omega, h3, by omega⟩
      have hnd6 : ((L.take (i + 1)).map (·.1)).Nodup := by
        rw [List.take_succ_eq_append_getElem hlt, (List.getElem?_eq_some_iff.1 hx).2, List.map_append]
        exact nodup_snoc hnd h5
      clear m6 hg6
      go_wp2
      go_wp2
      refine hQQ.out _ _ _ ?_
      simp only [Exit.then, Exit.inBlock]
      go_roundw
      case rel => exact ⟨i + 1, by omega, by go_num, hok6, hnd6, hm6, b6⟩
      case measure => simp [intOf]; omega
    · obtain rfl : i = L.length := by omega
      rw [List.take_length] at hok hnd
      have hr : decide (L.length ≤ 200) = decide (rightP L) := by
        by_cases h : L.length ≤ 200
        · rw [decide_eq_true h, decide_eq_true (show rightP L from ⟨hok, hnd, h⟩)]
        · rw [decide_eq_false h, decide_eq_false fun h2 : rightP L => h h2.2.2]
      go_wp2
      refine bodyPost_ret (by simp only [results, Tryz.results8]; go_simp; try rfl) rfl ⟨?_, hbel⟩
      rw [← hr]
      simp
      omega
end Go.Proofs.YtijidnhaijdfaaaGreatDoor

/- A step of a path through a trie; pairs' root: Root. Conditions: none. -/
namespace Go.Proofs.YtijidnhaijdfaaaGreatDoor
open Go.RowKit
attribute [local go_sem] leftBy leaves
set_option linter.unusedSimpArgs false
set_option linter.unusedVariables false

/-- The children of a node, by what leads to them. -/
def csL : Cs → List (Bs × Nd)
  | .nil => []
  | .cons h c l => ([h], c) :: csL l
def childL : Nd → List (Bs × Nd)
  | .leaf _ _ => []
  | .ext p c => [(p, c)]
  | .branch l => csL l
def stepN (nd : Nd) (k : Bs) : Option (Bs × Nd) := (childL nd).find? fun pc => pc.1.isPrefixOf k
theorem csL_heads : ∀ l : Cs, (csL l).map (·.1) = l.heads.map fun h => [h]
  | .nil => rfl
  | .cons h c l => by rw [csL, List.map_cons, csL_heads l, Cs.heads, List.map_cons]
theorem childL_leads (nd : Nd) : (childL nd).map (·.1) = leads nd := by
  cases nd with
  | leaf p v => rfl
  | ext p c => rfl
  | branch l => exact csL_heads l
theorem one_prefix (h : UInt8) (k : Bs) : [h].isPrefixOf k = match k with | [] => false | x :: _ => h == x := by
  cases k with
  | nil => rfl
  | cons x t =>
    show (h == x && ([] : Bs).isPrefixOf t) = (h == x)
    simp
theorem csL_step : ∀ (l : Cs) (x : UInt8) (t : Bs), (csL l).find? (fun pc => pc.1.isPrefixOf (x :: t)) = (l.get x).map fun c => ([x], c)
  | .nil, x, t => by rw [csL, Cs.get]; rfl
  | .cons h c l, x, t => by
    rw [csL, Cs.get, List.find?_cons]
    simp only [one_prefix]
    by_cases e : h = x
    · subst e
      rw [if_pos rfl]
      simp
    · rw [if_neg e]
      have e2 : (h == x) = false := beq_eq_false_iff_ne.2 e
      rw [e2]
      exact csL_step l x t
theorem csL_none : ∀ l : Cs, (csL l).find? (fun pc => pc.1.isPrefixOf ([] : Bs)) = none
  | .nil => by rw [csL]; rfl
  | .cons h c l => by
    rw [csL, List.find?_cons]
    simp only [one_prefix]
    exact csL_none l
/-- The nodes on a path's way, step by step. -/
theorem prf_step (f : Bool) (nd : Nd) (k : Bs) : prf f nd k = nodeB f (item nd) ++ match stepN nd k with | some pc => prf false pc.2 (k.drop pc.1.length) | none => [] := by
  cases nd with
  | leaf p v =>
    rw [prf]
    show _ = _ ++ []
    rw [List.append_nil]
  | ext p c =>
    rw [prf]
    congr 1
    unfold stepN
    rw [childL, List.find?_cons]
    cases h : p.isPrefixOf k <;> rfl
  | branch l =>
    cases k with
    | nil =>
      rw [prf]
      congr 1
      unfold stepN
      rw [childL, csL_none]
    | cons x t =>
      rw [prf]
      congr 1
      unfold stepN
      rw [childL, csL_step, prfC_get]
      cases l.get x <;> rfl
theorem stepN_ok {n : Nat} {nd : Nd} {k : Bs} {pc : Bs × Nd} (h : ok n nd) (hs : stepN nd k = some pc) : 1 ≤ pc.1.length ∧ pc.1.length ≤ n ∧ ok (n - pc.1.length) pc.2 := by
  cases nd with
  | leaf p v => cases hs
  | ext p c =>
    rw [ok] at h
    unfold stepN at hs
    rw [childL, List.find?_cons] at hs
    cases hp : p.isPrefixOf k with
    | true =>
      rw [hp] at hs
      obtain rfl := Option.some.inj hs
      exact ⟨List.length_pos_iff.2 h.1, h.2.2.1, h.2.2.2.2⟩
    | false =>
      rw [hp] at hs
      cases hs
  | branch l =>
    rw [ok] at h
    unfold stepN at hs
    rw [childL] at hs
    cases k with
    | nil => rw [csL_none] at hs; cases hs
    | cons x t =>
      rw [csL_step] at hs
      cases hg : l.get x with
      | none => rw [hg] at hs; cases hs
      | some c =>
        rw [hg] at hs
        obtain rfl := Option.some.inj hs
        exact ⟨Nat.le_refl 1, h.1, (oks_get h.2 hg).2⟩
theorem csF_kids {F : Nat → Prop} {W : World} : ∀ {l : Cs} {ys : List Value}, csF F W l ys → ys.length = (csL l).length ∧ ∀ (i : Nat) (pc : Bs × Nd), (csL l)[i]? = some pc → ∃ y, ys[i]? = some y ∧ ndF F W pc.2 y
  | .nil, ys, h => by
    rw [csF] at h
    subst h
    exact ⟨rfl, fun i pc hi => by rw [csL] at hi; cases hi⟩
  | .cons hd c l, ys, h => by
    rw [csF] at h
    obtain ⟨y, r, rfl, h1, h2⟩ := h
    obtain ⟨h3, h4⟩ := csF_kids h2
    refine ⟨by rw [csL, List.length_cons, List.length_cons, h3], fun i pc hi => ?_⟩
    rw [csL] at hi
    cases i with
    | zero =>
      obtain rfl := Option.some.inj hi
      exact ⟨y, rfl, h1⟩
    | succ i => exact h4 i pc hi
theorem ndF_kids {F : Nat → Prop} {W : World} {nd : Nd} {v : Value} (h : ndF F W nd v) : ∃ ne ys, nodeF F W (item nd) (leads nd) v ne ∧ rowF F W ne ys ∧ ys.length = (childL nd).length ∧ ∀ (i : Nat) (pc : Bs × Nd), (childL nd)[i]? = some pc → ∃ y, ys[i]? = some y ∧ ndF F W pc.2 y := by
  cases nd with
  | leaf p w =>
    rw [ndF] at h
    obtain ⟨ne, h1, h2⟩ := h
    exact ⟨ne, [], h1, h2, rfl, fun i pc hi => by cases hi⟩
  | ext p c =>
    rw [ndF] at h
    obtain ⟨ne, y, h1, h2, h3⟩ := h
    refine ⟨ne, [y], h1, h2, rfl, fun i pc hi => ?_⟩
    cases i with
    | zero =>
      obtain rfl := Option.some.inj hi
      exact ⟨y, rfl, h3⟩
    | succ i => cases hi
  | branch l =>
    rw [ndF] at h
    obtain ⟨ne, ys, h1, h2, h3⟩ := h
    obtain ⟨h4, h5⟩ := csF_kids h3
    exact ⟨ne, ys, h1, h2, h4, h5⟩
theorem find_at {α : Type} {p : α → Bool} {l : List α} {i : Nat} {x : α} (hx : l[i]? = some x) (hp : p x = true) (hn : ∀ (j : Nat) (y : α), j < i → l[j]? = some y → p y = false) : l.find? p = some x := by
  induction l generalizing i with
  | nil => cases hx
  | cons y l ih =>
    cases i with
    | zero =>
      obtain rfl := Option.some.inj hx
      rw [List.find?_cons, hp]
    | succ i =>
      rw [List.find?_cons, hn 0 y (Nat.succ_pos i) rfl]
      exact ih hx fun j z hj hz => hn (j + 1) z (Nat.succ_lt_succ hj) hz
theorem find_no {α : Type} {p : α → Bool} {l : List α} (hn : ∀ (j : Nat) (y : α), l[j]? = some y → p y = false) : l.find? p = none := by
  induction l with
  | nil => rfl
  | cons y l ih =>
    rw [List.find?_cons, hn 0 y rfl]
    exact ih fun j z hz => hn (j + 1) z hz
theorem okP.right {kl : Nat} {L : List Lf} (h : okP kl L) : rightP L := ⟨fun x hx => by
  obtain ⟨h1, h2, h3⟩ := h.all x hx
  have := h.one
  have := h.top
  exact ⟨fun e => by rw [e, List.length_nil] at h1; omega, by omega, h2, h3⟩, h.nod, h.len⟩
set_option maxRecDepth 100000 in
set_option maxHeartbeats 8000000 in
theorem Root_any (kl : Nat) (v : Value) (L : List Lf) (W : World) (hp : okP kl L) (hne : L ≠ []) (hv : lvF (fun _ => True) W v L) (hT : KT W) (h3 : 3 ≤ W.heap.size) :
    Calls Tryz.prog 22 #[v] W fun e w' => e = .returned (.tuple #[.string (bsS (dg (enc (item (trieN kl L))))), .int .i64 0]) ∧ Below W.heap.size W w' := by
  have cT := Right_any v L W hv (by have := hp.len; omega) (fun x hx => by have := (hp.all x hx).1; have := hp.top; omega)
  rw [decide_eq_true hp.right] at cT
  have cR : ∀ w2, Below W.heap.size W w2 → Calls Tryz.prog 42 #[v] w2 fun e w' => ∃ q, e = .returned (.pointer (some ⟨q, 0, none⟩)) ∧ w'.cell? ⟨q, 3, none⟩ = some (.string (bsS (enc (item (trieN kl L))))) ∧ q < w'.heap.size ∧ Below W.heap.size W w' := fun w2 hb =>
    (root_any kl v L w2 hp hne (hv.below hb) (hT.below hb h3) (by have := hb.size; omega)).mono fun e w' ⟨q, h1, h2, h4⟩ => by
      obtain ⟨ne, hn⟩ := h2.node
      obtain ⟨k, p, c, le, ⟨hk, _⟩, _, ⟨_, _, _, h5, _, _⟩, _, _⟩ := hn.cells
      obtain rfl : q = k := by simpa using hk
      exact ⟨q, h1, h5, lt_of_cell h5, hb.trans (h4.mono hb.size)⟩
  have hlen : (enc (item (trieN kl L))).length ≤ 1200 := item_le (by have := hp.top; omega) (trieN_ok hp hne)
  generalize enc (item (trieN kl L)) = s at *
  clear hp hne
  obtain ⟨a, c, rfl, hc, hx⟩ := hv
  clear hc hx
  have cTh := Lib.hid cT
  have cRh := Lib.hid cR
  have hTh := Lib.hid hT
  clear cT cR hT
  go_enter Tryz.func22, Tryz.ntmps22
  go_wp2_with (first | (go_at_call 8; refine cTh.out.mono ?_; rintro e w2 ⟨rfl, hb2⟩) | (go_at_call 42; refine (cRh.out _ hb2).mono ?_; rintro e w4 ⟨q, rfl, hq, hlt, hb4⟩) | (go_at_call 7; refine (Sum_one s _ _ (by rw [Lib.cell_of_heap (heap_new rfl)]; rfl) (by omega) (by have := hb4.size; simp; omega) (hTh.out.below (hb4.alloc hb4.size _) h3)).mono ?_; rintro e w5 ⟨rfl, hb5⟩))
  refine bodyPost_ret (by simp only [results, Tryz.results22]; go_simp; try rfl) rfl ⟨rfl, ?_⟩
  exact (hb4.alloc hb4.size _).trans (hb5.mono (by have := hb4.size; simp; omega))
end Go.Proofs.YtijidnhaijdfaaaGreatDoor

/- The way of a key: Prove. Conditions: pairs that are right. -/
namespace Go.Proofs.YtijidnhaijdfaaaGreatDoor
open Go.RowKit
attribute [local go_sem] leftBy leaves Oper.semAt_some
set_option linter.unusedSimpArgs false
set_option linter.unusedVariables false

/-- Between the rounds of Prove. -/
structure pvI (W : World) (M : Nat) (P : List Bs) (o path x f : Value) (wr : World) : Prop where
  bel : Below W.heap.size W wr
  size : W.heap.size ≤ M ∧ M ≤ wr.heap.size
  at_ : ∃ (nd : Nd) (k : Bs) (fst : Bool) (acc : List Bs) (q n : Nat), path = .string (bsS k) ∧ x = .pointer (some ⟨q, 0, none⟩) ∧ f = .bool fst ∧ ndF (fun g => W.heap.size ≤ g ∧ g < M) wr nd x ∧ ok n nd ∧ k.length = n ∧ n ≤ 128 ∧ acc.length + n ≤ 129 ∧ wr.ownsRow M 9 1 o acc.length (acc.map fun s => .string (bsS s)) ∧ acc ++ prf fst nd k = P
theorem Cut_any (s p : Bs) (w : World) : Calls Tryz.prog 44 #[.string (bsS s), .string (bsS p)] w fun e w' => e = .returned (.tuple #[.string (bsS (if p.isPrefixOf s then s.drop p.length else s)), .bool (p.isPrefixOf s)]) ∧ w' = w := strings_CutPrefix (bsS s) (bsS p) w
def strLen (v : Value) : Nat := match v with
  | .string s => s.size
  | _ => 0
theorem ndF_at {F : Nat → Prop} {W : World} {nd : Nd} {q : Nat} (h : ndF F W nd (.pointer (some ⟨q, 0, none⟩))) : ∃ (la na : Option Addr) (lc nc : Nat), (childL nd).length ≤ 9223372036854775807 ∧ (F q ∧ W.cell? ⟨q, 3, none⟩ = some (.string (bsS (enc (item nd)))) ∧ W.cell? ⟨q, 4, none⟩ = some (.slice la (childL nd).length lc) ∧ W.cell? ⟨q, 5, none⟩ = some (.slice na (childL nd).length nc)) ∧
    ∀ (i : Nat) (pc : Bs × Nd), (childL nd)[i]? = some pc → ∃ b1 o1 b2 o2 y, la = some ⟨b1, o1, none⟩ ∧ na = some ⟨b2, o2, none⟩ ∧ (F b1 ∧ F b2) ∧ W.cell? ⟨b1, o1 + i, none⟩ = some (.string (bsS pc.1)) ∧ W.cell? ⟨b2, o2 + i, none⟩ = some (.pointer (some ⟨y, 0, none⟩)) ∧ ndF F W pc.2 (.pointer (some ⟨y, 0, none⟩)) := by
  obtain ⟨ne, ys, hnode, ⟨na, nc, rfl, hncc, hnc⟩, hyl, hkids⟩ := ndF_kids h
  obtain ⟨q', ip, ic, le, ⟨hq, hqF⟩, hcq, ⟨_, _, _, c3, c4, c5⟩, _, ⟨la, lc, rfl, _, hlc⟩⟩ := hnode.cells
  obtain rfl : q = q' := by simpa using hq
  rw [← childL_leads, List.length_map, List.length_map] at c4
  rw [hyl] at c5
  have hm : (childL nd).length ≤ 9223372036854775807 := by
    unfold maxLen at hncc
    omega
  refine ⟨la, na, lc, nc, hm, ⟨hqF, c3, c4, c5⟩, fun i pc hi => ?_⟩
  obtain ⟨y, hy, hny⟩ := hkids i pc hi
  obtain ⟨b1, o1, ⟨rfl, f1⟩, e1⟩ := hlc i (.string (bsS pc.1)) (by rw [← childL_leads, List.getElem?_map, List.getElem?_map, hi]; rfl)
  obtain ⟨b2, o2, ⟨rfl, f2⟩, e2⟩ := hnc i y hy
  obtain ⟨_, hn2⟩ := hny.node
  obtain ⟨y', _, _, _, ⟨hy', _⟩, _⟩ := hn2.cells
  subst hy'
  exact ⟨b1, o1, b2, o2, y', rfl, rfl, ⟨f1, f2⟩, e1, e2, hny⟩
set_option maxRecDepth 100000 in
set_option maxHeartbeats 8000000 in
theorem Prove_any (kl : Nat) (v : Value) (L : List Lf) (key : Bs) (W : World) (hp : okP kl L) (hne : L ≠ []) (hk : key.length = kl) (hv : lvF (fun _ => True) W v L) (hT : KT W) (h3 : 3 ≤ W.heap.size) :
    Calls Tryz.prog 23 #[v, .string (bsS key)] W fun e w' => ∃ u, e = .returned (.tuple #[u, .int .i64 0]) ∧ rowF (fun g => W.heap.size ≤ g) w' u ((prf true (trieN kl L) (halves key)).map fun s => .string (bsS s)) ∧ Below W.heap.size W w' := by
  have hk64 := hp.top
  have cT := Right_any v L W hv (by have := hp.len; omega) (fun x hx => by have := (hp.all x hx).1; omega)
  rw [decide_eq_true hp.right] at cT
  have cO := fun w => Of_any key (by omega) w
  have cR : ∀ w2, Below W.heap.size W w2 → Calls Tryz.prog 42 #[v] w2 fun e w' => ∃ q, e = .returned (.pointer (some ⟨q, 0, none⟩)) ∧ ndF (fun g => W.heap.size ≤ g ∧ g < w'.heap.size) w' (trieN kl L) (.pointer (some ⟨q, 0, none⟩)) ∧ Below W.heap.size W w' := fun w2 hb =>
    (root_any kl v L w2 hp hne (hv.below hb) (hT.below hb h3) (by have := hb.size; omega)).mono fun e w' ⟨q, h1, h2, h4⟩ =>
      ⟨q, h1, h2.to fun g hg hc => ⟨⟨Nat.le_trans hb.size hg, hc.lt⟩, rfl⟩, hb.trans (h4.mono hb.size)⟩
  have hok := trieN_ok hp hne
  have hkl : (halves key).length = 2 * kl := by rw [halves_length, hk]
  generalize trieN kl L = nd at *
  obtain ⟨P, hP⟩ : ∃ P, P = prf true nd (halves key) := ⟨_, rfl⟩
  rw [← hP]
  have hPh := Lib.hid hP
  clear hP
  clear hp hne
  obtain ⟨a, c, rfl, hc, hx⟩ := hv
  clear hc hx
  obtain ⟨i0, hi, hz0, hz1, hz2⟩ := info_parts infoS
  have cTh := Lib.hid cT
  have cRh := Lib.hid cR
  have hTh := Lib.hid hT
  clear cT cR hT
  go_enter Tryz.func23, Tryz.ntmps23
  go_wp2
  go_step3
  go_wp2_with (first | (go_at_call 8; refine cTh.out.mono ?_; rintro e w2 ⟨rfl, hb2⟩) | (go_at_call 43; refine (cO _).mono ?_; rintro e w3 ⟨rfl, hb3⟩) | (go_at_call 42; refine (cRh.out _ (hb2.trans (hb3.mono hb2.size))).mono ?_; rintro e w4 ⟨q, rfl, hq, hb4⟩))
  go_step3
  go_wp2
  have hP := hPh.out
  have hst : pvI W w4.heap.size P (.slice none 0 0) (.string (bsS (halves key))) (.pointer (some ⟨q, 0, none⟩)) (.bool true) w4 := ⟨hb4, ⟨hb4.size, Nat.le_refl _⟩, nd, halves key, true, [], q, 2 * kl, rfl, rfl, rfl, hq, hok, hkl, by omega, by simp; omega, World.ownsRow_nil _ _ _ _, by rw [hP]; rfl⟩
  generalize w4.heap.size = M at *
  clear hP hq hok hkl hb2 hb3 hb4 hk cTh cRh hTh h3 cO
  go_loopw [6, 7, 8, 9] (fun o p x f wr => pvI W M P o p x f wr) (fun _ p _ _ _ => strLen p)
  case atStart => exact hst
  case round =>
    clear hst
    obtain ⟨bel, ⟨z1, z2⟩, nd, k, fst, acc, q, n, rfl, rfl, rfl, hnd, hok, hkn, hn, hacc, hrow, hP⟩ := hrel
    obtain ⟨la, na, lc, nc, hlz, ⟨hqF, c3, c4, c5⟩, hkids⟩ := ndF_at hnd
    obtain ⟨oa, oc, rfl, _, _⟩ := row_form hrow
    rw [prf_step] at hP
    have hz := bsS_size (enc (item nd))
    have hlen : (enc (item nd)).length ≤ 1200 := item_le hn hok
    refine wp_hide fun QQ hQQ => ?_
    have hst := fun pc (h : stepN nd k = some pc) => stepN_ok hok h
    unfold stepN at hst hP
    generalize hlds : childL nd = lds at *
    cases fst with
    | true =>
      have hB : nodeB true (item nd) = [enc (item nd)] := rfl
      have hrow0 := hrow.alloc (.cells #[.string (bsS (enc (item nd)))] 9)
      have hao := row_lt hrow
      go_wp2_with (at_builtin; refine wpList_append_own_at _ rfl _ _ 23 rfl M 9 i0 (.string ⟨#[]⟩) 1 16 Tryz.underlying23 hi hz0 hz1 hz2 rfl (by decide) _ _ _ rfl hrow0 ⟨wr.heap.size, 0, none⟩ 1 1 [.string (bsS (enc (item nd)))] rfl rfl (cell_one_new _ _ _) (by simp [Value.oneCell']) (by unfold maxLen; omega) (by omega) (by simp; omega) ?_; intro o6 w6 hown6 hgrow6 _ hat6; obtain ⟨a6, c6, rfl, _, _⟩ := row_form hown6; have hs6 : ∀ g, W.heap.size ≤ g → g < M → w6.heap[g]? = wr.heap[g]? := (fun g h1 h2 => (hgrow6.block g (by simp; omega) (fun e => by have := hao g e.symm; omega)).trans (Below.heap_alloc _ _ _ (by omega))); have d4 := (World.cell?_of_block (a := ⟨q, 4, none⟩) (hs6 q hqF.1 hqF.2)).trans c4; have d5 := (World.cell?_of_block (a := ⟨q, 5, none⟩) (hs6 q hqF.1 hqF.2)).trans c5)
      have hk6 := Lib.hid fun i pc hpc => by
        obtain ⟨b1, o1, b2, o2, y, e1, e2, ⟨⟨f1, f2⟩, f3, f4⟩, g1, g2, hny⟩ := hkids i pc hpc
        exact (⟨b1, o1, b2, o2, y, e1, e2, (World.cell?_of_block (a := ⟨b1, o1 + i, none⟩) (hs6 b1 f1 f2)).trans g1, (World.cell?_of_block (a := ⟨b2, o2 + i, none⟩) (hs6 b2 f3 f4)).trans g2, hny.to fun g hg _ => ⟨hg, hs6 g hg.1 hg.2⟩⟩ : ∃ b1 o1 b2 o2 y, la = some ⟨b1, o1, none⟩ ∧ na = some ⟨b2, o2, none⟩ ∧ w6.cell? ⟨b1, o1 + i, none⟩ = some (.string (bsS pc.1)) ∧ w6.cell? ⟨b2, o2 + i, none⟩ = some (.pointer (some ⟨y, 0, none⟩)) ∧ ndF (fun g => W.heap.size ≤ g ∧ g < M) w6 pc.2 (.pointer (some ⟨y, 0, none⟩)))
      have hz6 := hgrow6.size
      rw [World.size_alloc] at hz6
      have hz6' : wr.heap.size ≤ w6.heap.size := by omega
      have B6 : Below W.heap.size W w6 := (bel.alloc bel.size _).trans ⟨hgrow6.os, hgrow6.tape, hgrow6.output, by rw [World.size_alloc]; exact hz6, fun g hg => hgrow6.block g (by rw [World.size_alloc]; have := bel.size; omega) (fun e => by have := hao g e.symm; omega)⟩
      have hrow6 : w6.ownsRow M 9 1 (.slice a6 (acc.length + 1) c6) (acc ++ nodeB true (item nd)).length ((acc ++ nodeB true (item nd)).map fun s => .string (bsS s)) := by
        rw [List.map_append, List.length_append, hB]
        exact hown6
      have hacc6 : (acc ++ nodeB true (item nd)).length ≤ acc.length + 1 := by rw [List.length_append, hB]; exact Nat.le_refl _
      rw [← List.append_assoc] at hP
      generalize hA6 : acc ++ nodeB true (item nd) = acc6 at *
      clear hA6 hs6 hgrow6 hown6 hkids hnd c3 c4 c5 hat6 hrow hrow0 hao bel
      go_loopw [7, 8, 44] (fun p x i wr2 => p = .string (bsS k) ∧ x = .pointer (some ⟨q, 0, none⟩) ∧ wr2 = w6 ∧ ∃ j : Nat, j ≤ lds.length ∧ i = .int .i64 (j : Nat) ∧ ∀ (j' : Nat) (pc : Bs × Nd), j' < j → lds[j']? = some pc → pc.1.isPrefixOf k = false) (fun _ _ i _ => lds.length - (intOf i).toNat)
      case atStart => exact ⟨rfl, rfl, rfl, 0, Nat.zero_le _, rfl, fun j' pc h => absurd h (Nat.not_lt_zero _)⟩
      case round =>
        obtain ⟨rfl, rfl, rfl, j, hj, rfl, hno⟩ := hrel
        by_cases hjl : j < lds.length
        · obtain ⟨⟨p, ch⟩, hpc⟩ : ∃ pc, lds[j]? = some pc := ⟨_, List.getElem?_eq_getElem hjl⟩
          obtain ⟨b1, o1, b2, o2, y, rfl, rfl, e1, e2, hny⟩ := hk6.out j _ hpc
          have hji : (j : Int) < (lds.length : Int) := by omega
          dsimp only at e1 hny
          cases hpk : p.isPrefixOf k with
          | true =>
            have cK := Cut_any k p
            rw [hpk, if_pos rfl] at cK
            have hsN := find_at (p := fun pc : Bs × Nd => pc.1.isPrefixOf k) hpc hpk hno
            clear hno
            go_wp2_with (go_at_call 44; refine (cK _).mono ?_; rintro e _ ⟨rfl, hww⟩; obtain rfl := hww.symm)
            first | refine wp_flow (fun k => ([1, 1, 1, 1, 1, 1, 1, 1, 1, 1] : List Nat).getD k 1) Dr _ (Dr.next _ _) (by kernel_rfl) (by kernel_rfl) ?_ | refine wp_flow (fun k => ([1, 1, 1, 1, 1, 1, 1, 1, 1, 1] : List Nat).getD k 1) Dr _ (Dr.one _) (by kernel_rfl) (by kernel_rfl) ?_
            iterate 10 ((refine flow_quiet rfl rfl (fun K hK => ?_); apply Exists.intro; apply And.intro; (focus (rintro w' ⟨nn, rfl⟩; go_simp; (try go_bits); exact ⟨rfl, Dr.of _ _⟩)); go_simp; (try go_bits); refine hK _ ?_; clear hK K))
            refine flow_nil ?_
            rintro w' ⟨nq, rfl⟩
            go_wp2
            refine hQQ.out _ _ _ ?_
            simp only [Exit.then, Exit.inBlock]
            rw [hsN] at hP
            dsimp only at hP
            obtain ⟨hl1, hl2, hl3⟩ := hst _ hsN
            dsimp only at hl1 hl2 hl3
            go_roundw
            case rel => exact ⟨below_drewN B6 _, ⟨z1, Nat.le_trans z2 hz6'⟩, ch, k.drop p.length, false, acc6, y, n - p.length, rfl, rfl, rfl, ndF.to (F := fun g => W.heap.size ≤ g ∧ g < M) (F' := fun g => W.heap.size ≤ g ∧ g < M) (W := wr) (W' := wr.drewN nq) (fun g hg _ => ⟨hg, rfl⟩) hny, hl3, by rw [List.length_drop, hkn], by omega, by omega, row_same hrow6 fun _ _ _ => rfl, hP⟩
            case measure =>
              simp only [strLen, bsS_size, List.length_drop]
              omega
          | false =>
            have cK := Cut_any k p
            rw [hpk, if_neg (by decide)] at cK
            go_wp2_with (go_at_call 44; refine (cK _).mono ?_; rintro e _ ⟨rfl, hww⟩; obtain rfl := hww.symm)
            refine ⟨⟨rfl, rfl, trivial, j + 1, by omega, by go_num, fun j' pc h hp => ?_⟩, by simp [intOf]; omega⟩
            by_cases e : j' < j
            · exact hno j' pc e hp
            · obtain rfl : j' = j := by omega
              rw [hpc] at hp
              obtain rfl := Option.some.inj hp
              exact hpk
        · obtain rfl : j = lds.length := by omega
          have hsN := find_no (p := fun pc : Bs × Nd => pc.1.isPrefixOf k) fun j pc h => hno j pc (List.getElem?_eq_some_iff.1 h).1 h
          rw [hsN] at hP
          dsimp only at hP
          rw [List.append_nil] at hP
          have hfin := rowF_own (F := fun g => W.heap.size ≤ g) (xs := acc6.map fun s => .string (bsS s)) (by rw [List.length_map]; exact hrow6) fun g hg => by have := row_lt hrow6 g hg; omega
          rw [hP] at hfin
          clear hno hsN
          go_wp2
          go_wp2
          refine hQQ.out _ _ _ ?_
          simp only [Exit.then, Exit.inBlock]
          go_wp2
          rw [Exit.noGoto_ret]
          refine bodyPost_ret (by simp only [results, Tryz.results23]; go_simp; try rfl) rfl ⟨_, rfl, hfin, B6⟩
    | false =>
      by_cases h32 : 32 ≤ (enc (item nd)).length
      · have hB : nodeB false (item nd) = [enc (item nd)] := by
          unfold nodeB
          rw [decide_eq_true h32]
          rfl
        have hsi : (32 : Int) ≤ ((enc (item nd)).length : Int) := by omega
        have hrow0 := hrow.alloc (.cells #[.string (bsS (enc (item nd)))] 9)
        have hao := row_lt hrow
        go_wp2_with (at_builtin; refine wpList_append_own_at _ rfl _ _ 23 rfl M 9 i0 (.string ⟨#[]⟩) 1 16 Tryz.underlying23 hi hz0 hz1 hz2 rfl (by decide) _ _ _ rfl hrow0 ⟨wr.heap.size, 0, none⟩ 1 1 [.string (bsS (enc (item nd)))] rfl rfl (cell_one_new _ _ _) (by simp [Value.oneCell']) (by unfold maxLen; omega) (by omega) (by simp; omega) ?_; intro o6 w6 hown6 hgrow6 _ hat6; obtain ⟨a6, c6, rfl, _, _⟩ := row_form hown6; have hs6 : ∀ g, W.heap.size ≤ g → g < M → w6.heap[g]? = wr.heap[g]? := (fun g h1 h2 => (hgrow6.block g (by simp; omega) (fun e => by have := hao g e.symm; omega)).trans (Below.heap_alloc _ _ _ (by omega))); have d4 := (World.cell?_of_block (a := ⟨q, 4, none⟩) (hs6 q hqF.1 hqF.2)).trans c4; have d5 := (World.cell?_of_block (a := ⟨q, 5, none⟩) (hs6 q hqF.1 hqF.2)).trans c5)
        have hk6 := Lib.hid fun i pc hpc => by
          obtain ⟨b1, o1, b2, o2, y, e1, e2, ⟨⟨f1, f2⟩, f3, f4⟩, g1, g2, hny⟩ := hkids i pc hpc
          exact (⟨b1, o1, b2, o2, y, e1, e2, (World.cell?_of_block (a := ⟨b1, o1 + i, none⟩) (hs6 b1 f1 f2)).trans g1, (World.cell?_of_block (a := ⟨b2, o2 + i, none⟩) (hs6 b2 f3 f4)).trans g2, hny.to fun g hg _ => ⟨hg, hs6 g hg.1 hg.2⟩⟩ : ∃ b1 o1 b2 o2 y, la = some ⟨b1, o1, none⟩ ∧ na = some ⟨b2, o2, none⟩ ∧ w6.cell? ⟨b1, o1 + i, none⟩ = some (.string (bsS pc.1)) ∧ w6.cell? ⟨b2, o2 + i, none⟩ = some (.pointer (some ⟨y, 0, none⟩)) ∧ ndF (fun g => W.heap.size ≤ g ∧ g < M) w6 pc.2 (.pointer (some ⟨y, 0, none⟩)))
        have hz6 := hgrow6.size
        rw [World.size_alloc] at hz6
        have hz6' : wr.heap.size ≤ w6.heap.size := by omega
        have B6 : Below W.heap.size W w6 := (bel.alloc bel.size _).trans ⟨hgrow6.os, hgrow6.tape, hgrow6.output, by rw [World.size_alloc]; exact hz6, fun g hg => hgrow6.block g (by rw [World.size_alloc]; have := bel.size; omega) (fun e => by have := hao g e.symm; omega)⟩
        have hrow6 : w6.ownsRow M 9 1 (.slice a6 (acc.length + 1) c6) (acc ++ nodeB false (item nd)).length ((acc ++ nodeB false (item nd)).map fun s => .string (bsS s)) := by
          rw [List.map_append, List.length_append, hB]
          exact hown6
        have hacc6 : (acc ++ nodeB false (item nd)).length ≤ acc.length + 1 := by rw [List.length_append, hB]; exact Nat.le_refl _
        rw [← List.append_assoc] at hP
        generalize hA6 : acc ++ nodeB false (item nd) = acc6 at *
        clear hA6 hs6 hgrow6 hown6 hkids hnd c3 c4 c5 hat6 hrow hrow0 hao bel
        go_loopw [7, 8, 44] (fun p x i wr2 => p = .string (bsS k) ∧ x = .pointer (some ⟨q, 0, none⟩) ∧ wr2 = w6 ∧ ∃ j : Nat, j ≤ lds.length ∧ i = .int .i64 (j : Nat) ∧ ∀ (j' : Nat) (pc : Bs × Nd), j' < j → lds[j']? = some pc → pc.1.isPrefixOf k = false) (fun _ _ i _ => lds.length - (intOf i).toNat)
        case atStart => exact ⟨rfl, rfl, rfl, 0, Nat.zero_le _, rfl, fun j' pc h => absurd h (Nat.not_lt_zero _)⟩
        case round =>
          obtain ⟨rfl, rfl, rfl, j, hj, rfl, hno⟩ := hrel
          by_cases hjl : j < lds.length
          · obtain ⟨⟨p, ch⟩, hpc⟩ : ∃ pc, lds[j]? = some pc := ⟨_, List.getElem?_eq_getElem hjl⟩
            obtain ⟨b1, o1, b2, o2, y, rfl, rfl, e1, e2, hny⟩ := hk6.out j _ hpc
            have hji : (j : Int) < (lds.length : Int) := by omega
            dsimp only at e1 hny
            cases hpk : p.isPrefixOf k with
            | true =>
              have cK := Cut_any k p
              rw [hpk, if_pos rfl] at cK
              have hsN := find_at (p := fun pc : Bs × Nd => pc.1.isPrefixOf k) hpc hpk hno
              clear hno
              go_wp2_with (go_at_call 44; refine (cK _).mono ?_; rintro e _ ⟨rfl, hww⟩; obtain rfl := hww.symm)
              first | refine wp_flow (fun k => ([1, 1, 1, 1, 1, 1, 1, 1, 1, 1] : List Nat).getD k 1) Dr _ (Dr.next _ _) (by kernel_rfl) (by kernel_rfl) ?_ | refine wp_flow (fun k => ([1, 1, 1, 1, 1, 1, 1, 1, 1, 1] : List Nat).getD k 1) Dr _ (Dr.one _) (by kernel_rfl) (by kernel_rfl) ?_
              iterate 10 ((refine flow_quiet rfl rfl (fun K hK => ?_); apply Exists.intro; apply And.intro; (focus (rintro w' ⟨nn, rfl⟩; go_simp; (try go_bits); exact ⟨rfl, Dr.of _ _⟩)); go_simp; (try go_bits); refine hK _ ?_; clear hK K))
              refine flow_nil ?_
              rintro w' ⟨nq, rfl⟩
              go_wp2
              refine hQQ.out _ _ _ ?_
              simp only [Exit.then, Exit.inBlock]
              rw [hsN] at hP
              dsimp only at hP
              obtain ⟨hl1, hl2, hl3⟩ := hst _ hsN
              dsimp only at hl1 hl2 hl3
              go_roundw
              case rel => exact ⟨below_drewN B6 _, ⟨z1, Nat.le_trans z2 hz6'⟩, ch, k.drop p.length, false, acc6, y, n - p.length, rfl, rfl, rfl, ndF.to (F := fun g => W.heap.size ≤ g ∧ g < M) (F' := fun g => W.heap.size ≤ g ∧ g < M) (W := wr) (W' := wr.drewN nq) (fun g hg _ => ⟨hg, rfl⟩) hny, hl3, by rw [List.length_drop, hkn], by omega, by omega, row_same hrow6 fun _ _ _ => rfl, hP⟩
              case measure =>
                simp only [strLen, bsS_size, List.length_drop]
                omega
            | false =>
              have cK := Cut_any k p
              rw [hpk, if_neg (by decide)] at cK
              go_wp2_with (go_at_call 44; refine (cK _).mono ?_; rintro e _ ⟨rfl, hww⟩; obtain rfl := hww.symm)
              refine ⟨⟨rfl, rfl, trivial, j + 1, by omega, by go_num, fun j' pc h hp => ?_⟩, by simp [intOf]; omega⟩
              by_cases e : j' < j
              · exact hno j' pc e hp
              · obtain rfl : j' = j := by omega
                rw [hpc] at hp
                obtain rfl := Option.some.inj hp
                exact hpk
          · obtain rfl : j = lds.length := by omega
            have hsN := find_no (p := fun pc : Bs × Nd => pc.1.isPrefixOf k) fun j pc h => hno j pc (List.getElem?_eq_some_iff.1 h).1 h
            rw [hsN] at hP
            dsimp only at hP
            rw [List.append_nil] at hP
            have hfin := rowF_own (F := fun g => W.heap.size ≤ g) (xs := acc6.map fun s => .string (bsS s)) (by rw [List.length_map]; exact hrow6) fun g hg => by have := row_lt hrow6 g hg; omega
            rw [hP] at hfin
            clear hno hsN
            go_wp2
            go_wp2
            refine hQQ.out _ _ _ ?_
            simp only [Exit.then, Exit.inBlock]
            go_wp2
            rw [Exit.noGoto_ret]
            refine bodyPost_ret (by simp only [results, Tryz.results23]; go_simp; try rfl) rfl ⟨_, rfl, hfin, B6⟩
      · have hB : nodeB false (item nd) = [] := by
          unfold nodeB
          rw [decide_eq_false h32]
          rfl
        have hsi : ¬ (32 : Int) ≤ ((enc (item nd)).length : Int) := by omega
        rw [hB, List.nil_append] at hP
        have B6 := bel
        have hrow6 := hrow
        have hz6' : wr.heap.size ≤ wr.heap.size := Nat.le_refl _
        have hacc6 : acc.length ≤ acc.length + 1 := Nat.le_succ _
        have hk6 := Lib.hid fun i pc hpc => by
          obtain ⟨b1, o1, b2, o2, y, e1, e2, ⟨⟨f1, f2⟩, f3, f4⟩, g1, g2, hny⟩ := hkids i pc hpc
          exact (⟨b1, o1, b2, o2, y, e1, e2, g1, g2, hny⟩ : ∃ b1 o1 b2 o2 y, la = some ⟨b1, o1, none⟩ ∧ na = some ⟨b2, o2, none⟩ ∧ wr.cell? ⟨b1, o1 + i, none⟩ = some (.string (bsS pc.1)) ∧ wr.cell? ⟨b2, o2 + i, none⟩ = some (.pointer (some ⟨y, 0, none⟩)) ∧ ndF (fun g => W.heap.size ≤ g ∧ g < M) wr pc.2 (.pointer (some ⟨y, 0, none⟩)))
        clear hkids hnd bel hrow
        go_wp2
        go_loopw [7, 8, 44] (fun p x i wr2 => p = .string (bsS k) ∧ x = .pointer (some ⟨q, 0, none⟩) ∧ wr2 = wr ∧ ∃ j : Nat, j ≤ lds.length ∧ i = .int .i64 (j : Nat) ∧ ∀ (j' : Nat) (pc : Bs × Nd), j' < j → lds[j']? = some pc → pc.1.isPrefixOf k = false) (fun _ _ i _ => lds.length - (intOf i).toNat)
        case atStart => exact ⟨rfl, rfl, rfl, 0, Nat.zero_le _, rfl, fun j' pc h => absurd h (Nat.not_lt_zero _)⟩
        case round =>
          obtain ⟨rfl, rfl, rfl, j, hj, rfl, hno⟩ := hrel
          by_cases hjl : j < lds.length
          · obtain ⟨⟨p, ch⟩, hpc⟩ : ∃ pc, lds[j]? = some pc := ⟨_, List.getElem?_eq_getElem hjl⟩
            obtain ⟨b1, o1, b2, o2, y, rfl, rfl, e1, e2, hny⟩ := hk6.out j _ hpc
            have hji : (j : Int) < (lds.length : Int) := by omega
            dsimp only at e1 hny
            cases hpk : p.isPrefixOf k with
            | true =>
              have cK := Cut_any k p
              rw [hpk, if_pos rfl] at cK
              have hsN := find_at (p := fun pc : Bs × Nd => pc.1.isPrefixOf k) hpc hpk hno
              clear hno
              go_wp2_with (go_at_call 44; refine (cK _).mono ?_; rintro e _ ⟨rfl, hww⟩; obtain rfl := hww.symm)
              first | refine wp_flow (fun k => ([1, 1, 1, 1, 1, 1, 1, 1, 1, 1] : List Nat).getD k 1) Dr _ (Dr.next _ _) (by kernel_rfl) (by kernel_rfl) ?_ | refine wp_flow (fun k => ([1, 1, 1, 1, 1, 1, 1, 1, 1, 1] : List Nat).getD k 1) Dr _ (Dr.one _) (by kernel_rfl) (by kernel_rfl) ?_
              iterate 10 ((refine flow_quiet rfl rfl (fun K hK => ?_); apply Exists.intro; apply And.intro; (focus (rintro w' ⟨nn, rfl⟩; go_simp; (try go_bits); exact ⟨rfl, Dr.of _ _⟩)); go_simp; (try go_bits); refine hK _ ?_; clear hK K))
              refine flow_nil ?_
              rintro w' ⟨nq, rfl⟩
              go_wp2
              refine hQQ.out _ _ _ ?_
              simp only [Exit.then, Exit.inBlock]
              rw [hsN] at hP
              dsimp only at hP
              obtain ⟨hl1, hl2, hl3⟩ := hst _ hsN
              dsimp only at hl1 hl2 hl3
              go_roundw
              case rel => exact ⟨below_drewN B6 _, ⟨z1, Nat.le_trans z2 hz6'⟩, ch, k.drop p.length, false, acc, y, n - p.length, rfl, rfl, rfl, ndF.to (F := fun g => W.heap.size ≤ g ∧ g < M) (F' := fun g => W.heap.size ≤ g ∧ g < M) (W := wr) (W' := wr.drewN nq) (fun g hg _ => ⟨hg, rfl⟩) hny, hl3, by rw [List.length_drop, hkn], by omega, by omega, row_same hrow6 fun _ _ _ => rfl, hP⟩
              case measure =>
                simp only [strLen, bsS_size, List.length_drop]
                omega
            | false =>
              have cK := Cut_any k p
              rw [hpk, if_neg (by decide)] at cK
              go_wp2_with (go_at_call 44; refine (cK _).mono ?_; rintro e _ ⟨rfl, hww⟩; obtain rfl := hww.symm)
              refine ⟨⟨rfl, rfl, trivial, j + 1, by omega, by go_num, fun j' pc h hp => ?_⟩, by simp [intOf]; omega⟩
              by_cases e : j' < j
              · exact hno j' pc e hp
              · obtain rfl : j' = j := by omega
                rw [hpc] at hp
                obtain rfl := Option.some.inj hp
                exact hpk
          · obtain rfl : j = lds.length := by omega
            have hsN := find_no (p := fun pc : Bs × Nd => pc.1.isPrefixOf k) fun j pc h => hno j pc (List.getElem?_eq_some_iff.1 h).1 h
            rw [hsN] at hP
            dsimp only at hP
            rw [List.append_nil] at hP
            have hfin := rowF_own (F := fun g => W.heap.size ≤ g) (xs := acc.map fun s => .string (bsS s)) (by rw [List.length_map]; exact hrow6) fun g hg => by have := row_lt hrow6 g hg; omega
            rw [hP] at hfin
            clear hno hsN
            go_wp2
            go_wp2
            refine hQQ.out _ _ _ ?_
            simp only [Exit.then, Exit.inBlock]
            go_wp2
            rw [Exit.noGoto_ret]
            refine bodyPost_ret (by simp only [results, Tryz.results23]; go_simp; try rfl) rfl ⟨_, rfl, hfin, B6⟩
end Go.Proofs.YtijidnhaijdfaaaGreatDoor

/- The references of a node of 17 items: refs. Conditions: none. -/
namespace Go.Proofs.YtijidnhaijdfaaaGreatDoor
open Go.RowKit
attribute [local go_sem] leftBy leaves Oper.semAt_some
set_option linter.unusedSimpArgs false
set_option linter.unusedVariables false

def neI : It → Bool
  | .text t => !t.isEmpty
  | .list _ => true
/-- The places of what is no empty text. -/
def refG (L : List It) (n : Nat) : List Nat := (List.range n).filter fun i => neI (L.getD i (.text []))
theorem refG_succ (L : List It) (n : Nat) : refG L (n + 1) = refG L n ++ if neI (L.getD n (.text [])) = true then [n] else [] := by
  unfold refG
  rw [List.range_succ, List.filter_append]
  congr 1
  cases h : neI (L.getD n (.text [])) <;> simp [h, ← List.getD_eq_getElem?_getD]
theorem refG_at (L : List It) (i : Nat) (hp : neI (L.getD i (.text [])) = true) : ∀ n, i < n → (refG L n)[(refG L i).length]? = some i
  | 0, h => absurd h (Nat.not_lt_zero _)
  | n + 1, h => by
    rw [refG_succ]
    rcases Nat.lt_or_ge i n with h1 | h1
    · have h2 := refG_at L i hp n h1
      rw [List.getElem?_append_left (List.getElem?_eq_some_iff.1 h2).1]
      exact h2
    · obtain rfl : i = n := by omega
      rw [List.getElem?_append_right (Nat.le_refl _), Nat.sub_self, if_pos hp]
      rfl
theorem refG_no {L : List It} {i : Nat} (hp : neI (L.getD i (.text [])) = false) : refG L (i + 1) = refG L i := by
  rw [refG_succ, hp, if_neg (by decide), List.append_nil]
theorem refG_yes {L : List It} {i : Nat} (hp : neI (L.getD i (.text [])) = true) : (refG L (i + 1)).length = (refG L i).length + 1 := by
  rw [refG_succ, hp, if_pos rfl, List.length_append]
  rfl
theorem refs_any (b t s : Value) (W : World) : Calls Tryz.prog 87 #[.agg #[b, t, s]] W fun e w' => e = .returned (.func (.func 105) #[] #[.pointer (some ⟨W.heap.size, 0, none⟩)]) ∧ w' = W.alloc (.cells #[b, t, s] 51) := by
  go_enter Tryz.func87, Tryz.ntmps87
  go_wp2
  go_ret
  exact ⟨rfl, rfl⟩
set_option maxRecDepth 100000 in
set_option maxHeartbeats 8000000 in
theorem refs_it (n : Nat) (hn : 1 ≤ n) (l b bl o c : Nat) (L : List It) (hL : L.length = 17) (hc : 17 ≤ c) (hcm : c ≤ maxLen) (V : Nat → Value) (J : Nat → World → Prop) (W : World)
    (hJb : ∀ k W W', J k W → Below W.heap.size W W' → J k W')
    (hJc : ∀ k W1, J k W1 → W1.cell? ⟨b, 2, none⟩ = some (.slice (some ⟨bl, o, none⟩) 17 c) ∧ ∀ i x, L[i]? = some x → ∃ sp sn sc, W1.cell? ⟨bl, o + i * 3, none⟩ = some (.bool (isL x)) ∧ W1.cell? ⟨bl, o + i * 3 + 1, none⟩ = some (.string (bsS (txt x))) ∧ W1.cell? ⟨bl, o + i * 3 + 2, none⟩ = some (.slice sp sn sc) ∧ V i = .agg #[.bool (isL x), .string (bsS (txt x)), .slice sp sn sc])
    (hY : ∀ k W1, J k W1 → k < (refG L 16).length → YieldAt (FW none) (n - 1) Tryz.prog l #[V ((refG L 16).getD k 0)] W1 fun e W' => e = .returned (.bool true) ∧ J (k + 1) W' ∧ True) (h0 : J 0 W) :
    CallsIn (FW none) n Tryz.prog 105 #[.func (.yield l) #[] #[], .pointer (some ⟨b, 0, none⟩)] W fun e W' => (∃ v, e = .returned v) ∧ J (refG L 16).length W' := by
  obtain ⟨hb0, _⟩ := hJc 0 W h0
  have hci : (17 : Int) ≤ (c : Int) := by omega
  have hci16 : (16 : Int) ≤ (c : Int) := by omega
  clear hcm
  refine callsIn_of_wp Tryz.func105 rfl trivial ?_ rfl
  simp only [Tryz.ntmps105, List.size_toArray, List.length_cons, List.length_nil, Nat.reduceAdd, Nat.reduceSub, Array.replicate_succ, Array.replicate_zero, List.push_toArray, List.append_toArray, List.nil_append, List.cons_append]
  gi_wp2
  gi_loopw [9] (fun v wr => ∃ i : Nat, i ≤ 16 ∧ v = .int .i64 (i : Nat) ∧ J (refG L i).length wr) (fun v _ => 16 - (intOf v).toNat)
  case atStart => exact ⟨0, Nat.zero_le _, rfl, h0⟩
  case round =>
    obtain ⟨i, hi, rfl, hJ⟩ := hrel
    by_cases hil : i < 16
    · obtain ⟨x, hx⟩ : ∃ x, L[i]? = some x := ⟨_, List.getElem?_eq_getElem (by omega)⟩
      obtain ⟨hb1, hcell⟩ := hJc _ wr hJ
      obtain ⟨sp, sn, sc, c0, c1, c2, hV⟩ := hcell i x hx
      have hgd : L.getD i (.text []) = x := by rw [List.getD_eq_getElem?_getD, hx]; rfl
      have hili : (i : Int) < 16 := by omega
      clear hcell
      have b1 : Below wr.heap.size wr (wr.alloc (.cells #[.bool (isL x), .string (bsS (txt x)), .slice sp sn sc] 51)) := (Below.refl _ wr).alloc (Nat.le_refl _) _
      have hJ1 := hJb _ _ _ hJ b1
      cases x with
      | list m =>
        have hp : neI (L.getD i (.text [])) = true := by rw [hgd]; rfl
        have hat := refG_at L i hp 16 hil
        obtain ⟨fn, tmps, assign, body, hy, hR⟩ := hY _ _ hJ1 (List.getElem?_eq_some_iff.1 hat).1
        rw [List.getD_eq_getElem?_getD, hat, Option.getD_some, hV] at hy
        simp only [isL, txt] at c0 c1 hy hR
        clear hY hJb hJc hV hat hgd
        refine wpIn_hide fun QQ hQQ => ?_
        gi_wp2
        refine hR.mono ?_
        rintro e W3 ⟨rfl, hJ3, _⟩
        gi_wp2
        refine hQQ.out _ _ _ ?_
        simp only [Exit.then, Exit.inBlock]
        go_roundw
        case rel => exact ⟨i + 1, by omega, by go_num, by rw [refG_yes hp]; exact hJ3⟩
        case measure => simp [intOf]; omega
      | text t =>
        by_cases ht : t = []
        · have hp : neI (L.getD i (.text [])) = false := by rw [hgd, ht]; rfl
          have hem : (bsS t).toList.isEmpty = true := by rw [bsS_list, ht]; rfl
          simp only [isL, txt] at c0 c1 hJ1
          have hJ1h := Lib.hid hJ1
          clear hY hJb hJc hV hgd ht hJ1
          refine wpIn_hide fun QQ hQQ => ?_
          gi_wp2
          refine hQQ.out _ _ _ ?_
          simp only [Exit.then, Exit.inBlock]
          go_roundw
          case rel => exact ⟨i + 1, by omega, by go_num, by rw [refG_no hp]; exact hJ1h.out⟩
          case measure => simp [intOf]; omega
        · have hp : neI (L.getD i (.text [])) = true := by
            rw [hgd]
            cases t with
            | nil => exact absurd rfl ht
            | cons _ _ => rfl
          have hem : (bsS t).toList.isEmpty = false := by
            rw [bsS_list]
            cases t with
            | nil => exact absurd rfl ht
            | cons _ _ => rfl
          have hat := refG_at L i hp 16 hil
          obtain ⟨fn, tmps, assign, body, hy, hR⟩ := hY _ _ hJ1 (List.getElem?_eq_some_iff.1 hat).1
          rw [List.getD_eq_getElem?_getD, hat, Option.getD_some, hV] at hy
          simp only [isL, txt] at c0 c1 hy hR
          clear hY hJb hJc hV hat hgd ht
          refine wpIn_hide fun QQ hQQ => ?_
          gi_wp2
          refine hR.mono ?_
          rintro e W3 ⟨rfl, hJ3, _⟩
          gi_wp2
          refine hQQ.out _ _ _ ?_
          simp only [Exit.then, Exit.inBlock]
          go_roundw
          case rel => exact ⟨i + 1, by omega, by go_num, by rw [refG_yes hp]; exact hJ3⟩
          case measure => simp [intOf]; omega
    · obtain rfl : i = 16 := by omega
      gi_wp2
      go_end0
      exact ⟨⟨_, rfl⟩, hJ⟩
end Go.Proofs.YtijidnhaijdfaaaGreatDoor
