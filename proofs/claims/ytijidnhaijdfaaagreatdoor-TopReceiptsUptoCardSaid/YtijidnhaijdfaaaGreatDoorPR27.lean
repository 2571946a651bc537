/-
  A form's path: Read. Conditions: the bytes are a path's form.
-/
import Derived.OwnWalkIn
import Derived.Maps.OwnIn
import Derived.Test.YtijidnhaijdfaaaGreatDoorScope
import Derived.Test.YtijidnhaijdfaaaGreatDoorPR21
import Derived.Test.YtijidnhaijdfaaaGreatDoorPR13
namespace Go.Proofs.YtijidnhaijdfaaaGreatDoor
open Go.RowKit Go.Maps
attribute [local go_sem] leftBy leaves Oper.semAt_some
set_option linter.unusedSimpArgs false
set_option linter.unusedVariables false

/-- The half bytes of a path that are read behind k of a form's. -/
def readN (p : Bs) (k : Nat) : Bs := p.take (k - (2 - p.length % 2))
theorem readN_all (p : Bs) (leaf : Bool) (hn : nib p) : readN p (halves (form leaf p)).length = p := by
  unfold readN
  rw [halves_form leaf p hn]
  rcases Nat.mod_two_eq_zero_or_one p.length with h | h <;> rw [h] <;> simp
theorem halfF_zero (leaf : Bool) (p : Bs) (hn : nib p) : (halves (form leaf p)).getD 0 0 = UInt8.ofNat (markN leaf (p.length % 2)) := by
  rw [halves_form leaf p hn]
  rfl
theorem halfF_one (leaf : Bool) (p : Bs) (hn : nib p) (h : p.length % 2 = 0) : (halves (form leaf p)).getD 1 0 = 0 := by
  rw [halves_form leaf p hn, if_pos h]
  rfl
theorem halfF_get (leaf : Bool) (p : Bs) (hn : nib p) {k : Nat} (hk : 2 - p.length % 2 ≤ k) : (halves (form leaf p)).getD k 0 = p.getD (k - (2 - p.length % 2)) 0 := by
  rw [halves_form leaf p hn, List.getD_eq_getElem?_getD, List.getD_eq_getElem?_getD]
  rcases Nat.mod_two_eq_zero_or_one p.length with h | h
  · rw [h] at hk ⊢
    obtain ⟨j, rfl⟩ : ∃ j, k = j + 2 := ⟨k - 2, by omega⟩
    rfl
  · rw [h] at hk ⊢
    obtain ⟨j, rfl⟩ : ∃ j, k = j + 1 := ⟨k - 1, by omega⟩
    rfl
theorem halfF_len (leaf : Bool) (p : Bs) (hn : nib p) : (halves (form leaf p)).length = p.length + (2 - p.length % 2) := by
  rw [halves_form leaf p hn]
  rcases Nat.mod_two_eq_zero_or_one p.length with h | h <;> rw [h] <;> simp
theorem readN_succ (p : Bs) {k : Nat} (h1 : 2 - p.length % 2 ≤ k) (h2 : k < p.length + (2 - p.length % 2)) : readN p (k + 1) = readN p k ++ [p.getD (k - (2 - p.length % 2)) 0] := by
  unfold readN
  have hk : k - (2 - p.length % 2) < p.length := by omega
  rw [show k + 1 - (2 - p.length % 2) = k - (2 - p.length % 2) + 1 by omega, List.take_succ_eq_append_getElem hk, List.getD_eq_getElem?_getD, List.getElem?_eq_getElem hk, Option.getD_some]
theorem readN_small (p : Bs) {k : Nat} (h : k ≤ 2 - p.length % 2) : readN p k = [] := by
  unfold readN
  rw [show k - (2 - p.length % 2) = 0 by omega, List.take_zero]
/-- Between two half bytes of Read. -/
structure rdJ (W0 : World) (leaf : Bool) (p : Bs) (k : Nat) (X : World) : Prop where
  fr : Below W0.heap.size W0 X
  size : W0.heap.size + 5 ≤ X.heap.size
  box : X.heap[W0.heap.size + 4]? = some (.cells #[.string (bsS (form leaf p))] 9 (0, 0))
  bad : X.heap[W0.heap.size + 2]? = some (.cells #[.bool false] 4 (0, 0))
  cnt : X.heap[W0.heap.size + 3]? = some (.cells #[.int .i64 (k : Nat)] 3 (0, 0))
  mark : X.heap[W0.heap.size + 1]? = some (.cells #[.int .u8 ((if k = 0 then 0 else markN leaf (p.length % 2) : Nat) : Int)] 5 (0, 0))
  out : ∃ v, X.heap[W0.heap.size]? = some (.cells #[v] 60 (0, 0)) ∧ X.ownsRow (W0.heap.size + 5) 5 1 v (readN p k).length (Lib.byteCells (readN p k))
theorem rdJ.keep {W0 X X' : World} {leaf : Bool} {p : Bs} {k : Nat} (h : rdJ W0 leaf p k X) (hb : Below W0.heap.size X X') (hk : ∀ q, cellsAt X q → X'.heap[q]? = X.heap[q]?) : rdJ W0 leaf p k X' := by
  obtain ⟨fr, hz, b1, b2, b3, b4, v, hv, hr⟩ := h
  exact ⟨fr.trans hb, Nat.le_trans hz hb.size, (hk _ ⟨_, _, _, b1⟩).trans b1, (hk _ ⟨_, _, _, b2⟩).trans b2, (hk _ ⟨_, _, _, b3⟩).trans b3, (hk _ ⟨_, _, _, b4⟩).trans b4, v, (hk _ ⟨_, _, _, hv⟩).trans hv, row_same hr fun g _ hc => hk g hc⟩
theorem rdJ.below {W0 X X' : World} {leaf : Bool} {p : Bs} {k : Nat} (h : rdJ W0 leaf p k X) (hb : Below X.heap.size X X') : rdJ W0 leaf p k X' :=
  h.keep (hb.mono (by have := h.size; omega)) fun q hc => hb.block q hc.lt
theorem rdJ.turned {W0 X X' : World} {leaf : Bool} {p : Bs} {k l : Nat} (h : rdJ W0 leaf p k X) (hl : W0.heap.size ≤ l) (ht : recTurned l X X') : rdJ W0 leaf p k X' :=
  h.keep (turned_below ht hl) fun q hc => ht.cellsAt hc
/-- Bytes in a row of one's own, as a text. -/
theorem row_string {W : World} {B : Nat} {a : Option Addr} {c : Nat} {p : Bs} (h : W.ownsRow B 5 1 (.slice a p.length c) p.length (Lib.byteCells p)) : (convert 60 9 (.slice a p.length c)).run Tryz.prog W = .ok (.string (bsS p)) W := by
  rcases h.2 with ⟨hv, h0⟩ | ⟨g, cap, cur, hv, h2, h3, h4, h5, h6, h7⟩
  · have : p = [] := List.eq_nil_of_length_eq_zero h0
    subst this
    simp only [Value.slice.injEq] at hv
    obtain ⟨rfl, _, rfl⟩ := hv
    rw [run_convert_bytes_string W 60 9 5 _ _ _ Tryz.underlying60 Tryz.underlying5 Tryz.underlying9]
    rfl
  · simp only [Value.slice.injEq] at hv
    obtain ⟨rfl, _, rfl⟩ := hv
    have hc := h.cells (g := g) rfl
    exact string_bs p fun j b hb => by
      have := hc j (.int .u8 (b.toNat : Nat)) (by simp [Lib.byteCells, hb])
      rw [addr_add] at this
      exact this
set_option maxRecDepth 100000 in
set_option maxHeartbeats 16000000 in
theorem Read_form (leaf : Bool) (p : Bs) (hn : nib p) (hs : p.length ≤ 100000) (W : World) : Calls Tryz.prog 68 #[.string (bsS (form leaf p))] W fun e w' => e = .returned (.tuple #[.string (bsS p), .bool leaf, .int .i64 0]) ∧ Below W.heap.size W w' := by
  obtain ⟨i0, hi, hz0, hz1, hz2⟩ := info_parts info8
  have hfl := form_length leaf p
  have hhl := halfF_len leaf p hn
  have hhf := halves_length (form leaf p)
  have hne : (bsS (form leaf p)).toList.isEmpty = false := by
    rw [bsS_list]
    cases hq : form leaf p with
    | nil => rw [hq] at hfl; simp at hfl
    | cons b t => rfl
  refine calls_FW (n := 9) ?_
  refine callsIn_of_wp_marks Tryz.func68 rfl trivial ?_ rfl
  simp only [Tryz.ntmps68, List.size_toArray, List.length_cons, List.length_nil, Nat.reduceAdd, Nat.reduceSub, Array.replicate_succ, Array.replicate_zero, List.push_toArray, List.append_toArray, List.nil_append, List.cons_append]
  gi_wp2
  refine wpIn_scope rfl ?_
  gi_wp2
  refine wpIn_label ?_
  gi_wp2_with (gi_at_call 64; refine (callsIn_FW (halves_any _ _)).mono ?_; rintro e w' ⟨rfl, rfl⟩)
  have bB : Below W.heap.size W ((((((W.alloc (.cells #[.slice none 0 0] 60)).alloc (.cells #[.int .u8 0] 5)).alloc (.cells #[.bool false] 4)).alloc (.cells #[.int .i64 0] 3)).alloc (.cells #[.string (bsS (form leaf p))] 9))) := by
    repeat (first | exact Below.refl _ _ | refine Below.alloc ?_ (by simp; try omega) _)
  have z0 : ((((((W.alloc (.cells #[.slice none 0 0] 60)).alloc (.cells #[.int .u8 0] 5)).alloc (.cells #[.bool false] 4)).alloc (.cells #[.int .i64 0] 3)).alloc (.cells #[.string (bsS (form leaf p))] 9))).heap.size = W.heap.size + 5 := by simp
  have h0 : ((((((W.alloc (.cells #[.slice none 0 0] 60)).alloc (.cells #[.int .u8 0] 5)).alloc (.cells #[.bool false] 4)).alloc (.cells #[.int .i64 0] 3)).alloc (.cells #[.string (bsS (form leaf p))] 9))).heap[W.heap.size]? = some (.cells #[.slice none 0 0] 60 (0, 0)) := by
    repeat (first | (refine heap_new ?_; (simp; done)) | refine (Below.heap_alloc _ _ _ (by simp; try omega)).trans ?_)
  have h1 : ((((((W.alloc (.cells #[.slice none 0 0] 60)).alloc (.cells #[.int .u8 0] 5)).alloc (.cells #[.bool false] 4)).alloc (.cells #[.int .i64 0] 3)).alloc (.cells #[.string (bsS (form leaf p))] 9))).heap[W.heap.size + 1]? = some (.cells #[.int .u8 0] 5 (0, 0)) := by
    repeat (first | (refine heap_new ?_; (simp; done)) | refine (Below.heap_alloc _ _ _ (by simp; try omega)).trans ?_)
  have h2 : ((((((W.alloc (.cells #[.slice none 0 0] 60)).alloc (.cells #[.int .u8 0] 5)).alloc (.cells #[.bool false] 4)).alloc (.cells #[.int .i64 0] 3)).alloc (.cells #[.string (bsS (form leaf p))] 9))).heap[W.heap.size + 2]? = some (.cells #[.bool false] 4 (0, 0)) := by
    repeat (first | (refine heap_new ?_; (simp; done)) | refine (Below.heap_alloc _ _ _ (by simp; try omega)).trans ?_)
  have h3 : ((((((W.alloc (.cells #[.slice none 0 0] 60)).alloc (.cells #[.int .u8 0] 5)).alloc (.cells #[.bool false] 4)).alloc (.cells #[.int .i64 0] 3)).alloc (.cells #[.string (bsS (form leaf p))] 9))).heap[W.heap.size + 3]? = some (.cells #[.int .i64 0] 3 (0, 0)) := by
    repeat (first | (refine heap_new ?_; (simp; done)) | refine (Below.heap_alloc _ _ _ (by simp; try omega)).trans ?_)
  have h4 : ((((((W.alloc (.cells #[.slice none 0 0] 60)).alloc (.cells #[.int .u8 0] 5)).alloc (.cells #[.bool false] 4)).alloc (.cells #[.int .i64 0] 3)).alloc (.cells #[.string (bsS (form leaf p))] 9))).heap[W.heap.size + 4]? = some (.cells #[.string (bsS (form leaf p))] 9 (0, 0)) := by
    repeat (first | (refine heap_new ?_; (simp; done)) | refine (Below.heap_alloc _ _ _ (by simp; try omega)).trans ?_)
  generalize (((((W.alloc (.cells #[.slice none 0 0] 60)).alloc (.cells #[.int .u8 0] 5)).alloc (.cells #[.bool false] 4)).alloc (.cells #[.int .i64 0] 3)).alloc (.cells #[.string (bsS (form leaf p))] 9)) = w0 at *
  have hst : rdJ W leaf p 0 w0 := ⟨bB, by omega, h4, h2, h3, h1, _, h0, by rw [readN_small p (by omega)]; exact World.ownsRow_nil _ _ _ _⟩
  refine wpIn_rangeFunc_list (by omega) (gf := 86) (lb := #[.pointer (some ⟨W.heap.size + 1 + 1 + 1 + 1, 0, none⟩)]) rfl trivial (enters_of Tryz.func86 (by kernel_rfl) rfl)
    (2 * (form leaf p).length) (fun k => #[halfV (form leaf p) k]) (fun _ => rfl) (fun _ _ => True) (rdJ W leaf p) (fun k X Y h hb => h.below hb) (fun k l X Y h hl ht => h.turned (by omega) ht) (fun _ _ _ _ _ => trivial) (fun _ _ _ => trivial) (fun _ _ _ _ _ => trivial) hst ?hiter ?hround ?hdone
  case hiter =>
    intro l J X hJI hJb hY hJ0 hbX
    exact halves_it 8 (by omega) l (W.heap.size + 4) (form leaf p) (by omega) J X hJb (fun k Y hJ => by
      have := Lib.cell_of_heap (hJI k Y hJ).box 0
      exact this) hY hJ0
  case hround =>
    intro l k X hl hI hk
    gi_wp2
    refine ⟨Below.refl _ _, fun W2 ht => ?_⟩
    have hI2 := hI.turned (by omega) ht
    clear hI ht
    obtain ⟨fr, hz, box, bad, cnt, mark, v, hv, hr⟩ := hI2
    have cc := Lib.cell_of_heap cnt 0
    have cf := Lib.frozen_of_heap cnt 0
    have cm := Lib.cell_of_heap mark 0
    have mf := Lib.frozen_of_heap mark 0
    have cv := Lib.cell_of_heap hv 0
    have vf := Lib.frozen_of_heap hv 0
    simp only [List.getElem?_toArray, List.getElem?_cons_zero] at cc cm cv
    rw [← hhf, hhl] at hk
    have hkeep : ∀ W3, Below W.heap.size W2 W3 → W2.heap.size ≤ W3.heap.size := fun W3 hb => hb.size
    have ho := Nat.mod_two_eq_zero_or_one p.length
    by_cases h0k : k = 0
    · subst h0k
      have e0 := halfF_zero leaf p hn
      unfold halfV
      rw [e0, u8_of (by unfold markN; split <;> omega)]
      gi_wp2
      refine ⟨keeps_set (keeps_set (KeepsFrom.refl _ _) (by omega) _ _) (by omega) _ _, fr.trans (((Below.refl _ _).setCell (by simp) _).setCell (by simp; omega) _), by simp; omega, (heap_set_ne (by omega)).trans ((heap_set_ne (by omega)).trans box), (heap_set_ne (by omega)).trans ((heap_set_ne (by omega)).trans bad), set_same ((heap_set_ne (by omega)).trans cnt), (heap_set_ne (by omega)).trans (set_same mark), v, (heap_set_ne (by omega)).trans ((heap_set_ne (by omega)).trans hv), ?_⟩
      have e1 : readN p 1 = [] := readN_small p (by omega)
      have e2 : readN p 0 = [] := readN_small p (by omega)
      rw [e2] at hr
      rw [e1]
      exact row_same hr fun g hg _ => (heap_set_ne (by have := row_lt hr g hg; omega)).trans (heap_set_ne (by have := row_lt hr g hg; omega))
    · rw [if_neg h0k] at cm mark
      have hk0 : ¬ (k : Int) = 0 := by omega
      by_cases hB : k = 1 ∧ p.length % 2 = 0
      · obtain ⟨rfl, hpe⟩ := hB
        have e0 := halfF_one leaf p hn hpe
        rw [hpe] at cm
        have hm0 : ((markN leaf 0 : Nat) : Int) % 2 = 0 := by unfold markN; split <;> rfl
        have hph := Lib.hid hpe
        clear hpe ho
        unfold halfV
        rw [e0]
        gi_wp2
        refine ⟨keeps_set (KeepsFrom.refl _ _) (by omega) _ _, fr.trans ((Below.refl _ _).setCell (by simp; omega) _), by simp; omega, (heap_set_ne (by omega)).trans box, (heap_set_ne (by omega)).trans bad, set_same cnt, (heap_set_ne (by omega)).trans mark, v, (heap_set_ne (by omega)).trans hv, ?_⟩
        have e1 : readN p 1 = [] := readN_small p (by omega)
        have e2 : readN p 2 = [] := readN_small p (by have := hph.out; omega)
        rw [e1] at hr
        rw [e2]
        exact row_same hr fun g hg _ => heap_set_ne (by have := row_lt hr g hg; omega)
      · have h2k : 2 - p.length % 2 ≤ k := by omega
        have e0 := halfF_get leaf p hn h2k
        have es := readN_succ p h2k (by omega)
        have hcond : k = 1 → ((markN leaf (p.length % 2) : Nat) : Int) % 2 = 1 := fun h => by
          rw [show p.length % 2 = 1 by omega]
          unfold markN
          split <;> rfl
        have hrl : (readN p k).length ≤ 100000 := by unfold readN; rw [List.length_take]; omega
        obtain ⟨va, vc, rfl, hvc1, hvc2⟩ := row_form hr
        unfold halfV
        rw [e0]
        generalize p.getD (k - (2 - p.length % 2)) 0 = hb at *
        have hown := row_lt hr
        have hkl : k < 300000 := by omega
        have hpp := Lib.hid (And.intro hhl hk)
        have hboh := Lib.hid hB
        clear hhl hk ho hhf e0 hB h2k
        by_cases hk1 : k = 1
        · have hm1 := hcond hk1
          subst hk1
          clear hcond
          generalize hmk : markN leaf (p.length % 2) = mk at *
          have hmkh := Lib.hid hmk
          clear hmk
          gi_wp2_with (gi_at_builtin; refine wpListIn_append_own_at _ rfl _ _ 60 rfl (W.heap.size + 5) 5 i0 (.int .u8 0) 1 1 Tryz.underlying60 hi hz0 hz1 hz2 rfl (by decide) _ _ _ rfl (hr.alloc _) ⟨W2.heap.size, 0, none⟩ 1 1 [.int .u8 (hb.toNat : Nat)] rfl rfl (cell_one_new _ _ _) (by simp [Value.oneCell']) (by unfold maxLen; omega) (by omega) (by simp; omega) ?_; intro v' w1 hown' hgrow _ _; obtain ⟨g', cap', rfl⟩ := ownsRow_succ hown'; have hq : ∀ q, q < W.heap.size + 5 → w1.heap[q]? = W2.heap[q]? := (fun q hq => (hgrow.block q (by simp; omega) (fun e => by have := hown q e.symm; omega)).trans (Below.heap_alloc _ _ _ (by omega))); have xv := (hq W.heap.size (by omega)).trans hv; have xc := (hq (W.heap.size + 3) (by omega)).trans cnt; have yv := Lib.cell_of_heap xv 0; have yf := Lib.frozen_of_heap xv 0; have yc := Lib.cell_of_heap xc 0; have yg := Lib.frozen_of_heap xc 0; simp only [List.getElem?_toArray, List.getElem?_cons_zero] at yv yc; have hqh := Lib.hid hq; clear hq)
          have s1 := hgrow.size
          rw [World.size_alloc] at s1
          have hro := row_lt hown'
          refine ⟨keeps_set (keeps_set ((keeps_alloc _ _ _).trans (keeps_grown hgrow (hr.alloc _))) (by omega) _ _) (by omega) _ _, fr.trans (((((Below.refl _ W2).alloc (by omega) _).grown hgrow (by simp; omega) (fun q hq => by have := hown q hq; omega)).setCell (by simp) _).setCell (by simp; omega) _), by simp; omega, (heap_set_ne (by omega)).trans ((heap_set_ne (by omega)).trans ((hqh.out _ (by omega)).trans box)), (heap_set_ne (by omega)).trans ((heap_set_ne (by omega)).trans ((hqh.out _ (by omega)).trans bad)), set_same ((heap_set_ne (by omega)).trans xc), ?_, _, (heap_set_ne (by omega)).trans (set_same xv), ?_⟩
          · rw [if_neg (by omega), hmkh.out]
            exact (heap_set_ne (by omega)).trans ((heap_set_ne (by omega)).trans ((hqh.out _ (by omega)).trans mark))
          · rw [es, byteCells_append, List.length_append]
            exact row_same hown' fun g hg _ => (heap_set_ne (by have := hro g hg; omega)).trans (heap_set_ne (by have := hro g hg; omega))
        · have hk1i : ¬ (k : Int) = 1 := by omega
          clear hcond
          generalize hmk : markN leaf (p.length % 2) = mk at *
          have hmkh := Lib.hid hmk
          clear hmk
          gi_wp2_with (gi_at_builtin; refine wpListIn_append_own_at _ rfl _ _ 60 rfl (W.heap.size + 5) 5 i0 (.int .u8 0) 1 1 Tryz.underlying60 hi hz0 hz1 hz2 rfl (by decide) _ _ _ rfl (hr.alloc _) ⟨W2.heap.size, 0, none⟩ 1 1 [.int .u8 (hb.toNat : Nat)] rfl rfl (cell_one_new _ _ _) (by simp [Value.oneCell']) (by unfold maxLen; omega) (by omega) (by simp; omega) ?_; intro v' w1 hown' hgrow _ _; obtain ⟨g', cap', rfl⟩ := ownsRow_succ hown'; have hq : ∀ q, q < W.heap.size + 5 → w1.heap[q]? = W2.heap[q]? := (fun q hq => (hgrow.block q (by simp; omega) (fun e => by have := hown q e.symm; omega)).trans (Below.heap_alloc _ _ _ (by omega))); have xv := (hq W.heap.size (by omega)).trans hv; have xc := (hq (W.heap.size + 3) (by omega)).trans cnt; have yv := Lib.cell_of_heap xv 0; have yf := Lib.frozen_of_heap xv 0; have yc := Lib.cell_of_heap xc 0; have yg := Lib.frozen_of_heap xc 0; simp only [List.getElem?_toArray, List.getElem?_cons_zero] at yv yc; have hqh := Lib.hid hq; clear hq)
          have s1 := hgrow.size
          rw [World.size_alloc] at s1
          have hro := row_lt hown'
          refine ⟨keeps_set (keeps_set ((keeps_alloc _ _ _).trans (keeps_grown hgrow (hr.alloc _))) (by omega) _ _) (by omega) _ _, fr.trans (((((Below.refl _ W2).alloc (by omega) _).grown hgrow (by simp; omega) (fun q hq => by have := hown q hq; omega)).setCell (by simp) _).setCell (by simp; omega) _), by simp; omega, (heap_set_ne (by omega)).trans ((heap_set_ne (by omega)).trans ((hqh.out _ (by omega)).trans box)), (heap_set_ne (by omega)).trans ((heap_set_ne (by omega)).trans ((hqh.out _ (by omega)).trans bad)), set_same ((heap_set_ne (by omega)).trans xc), ?_, _, (heap_set_ne (by omega)).trans (set_same xv), ?_⟩
          · rw [if_neg (by omega), hmkh.out]
            exact (heap_set_ne (by omega)).trans ((heap_set_ne (by omega)).trans ((hqh.out _ (by omega)).trans mark))
          · rw [es, byteCells_append, List.length_append]
            exact row_same hown' fun g hg _ => (heap_set_ne (by have := hro g hg; omega)).trans (heap_set_ne (by have := hro g hg; omega))
  case hdone =>
    intro D X hD hI hd
    obtain ⟨fr, hz, box, bad, cnt, mark, v, hv, hr⟩ := hI
    have hpos : ¬ 2 * (form leaf p).length = 0 := by omega
    rw [if_neg hpos] at mark
    have e1 : readN p (2 * (form leaf p).length) = p := by
      rw [← hhf]
      exact readN_all p leaf hn
    rw [e1] at hr
    obtain ⟨va, vc, rfl, hvc1, hvc2⟩ := row_form hr
    have c0 := Lib.cell_of_heap hv 0
    have c1 := Lib.cell_of_heap mark 0
    have c2 := Lib.cell_of_heap bad 0
    simp only [List.getElem?_toArray, List.getElem?_cons_zero] at c0 c1 c2
    have hmk3 : ¬ (3 : Int) < ((markN leaf (p.length % 2) : Nat) : Int) := by
      have := Nat.mod_lt p.length (show 2 > 0 by decide)
      unfold markN
      split <;> omega
    have hlf : decide ((2 : Int) ≤ ((markN leaf (p.length % 2) : Nat) : Int)) = leaf := by
      have := Nat.mod_lt p.length (show 2 > 0 by decide)
      cases leaf
      · exact decide_eq_false (by unfold markN; simp; omega)
      · exact decide_eq_true (by unfold markN; simp; omega)
    generalize markN leaf (p.length % 2) = mk at *
    have hcv : ∀ nq, (convert 60 9 (.slice va p.length vc)).run Tryz.prog (X.drewN nq) = .ok (.string (bsS p)) (X.drewN nq) := fun nq => row_string (W := X.drewN nq) (B := W.heap.size + 5) hr
    gi_wp2
    first | refine wpIn_flow (r := none) (fun k => ([1, 1, 1, 1, 1, 1, 1] : List Nat).getD k 1) Dr _ (Dr.next _ _) (by kernel_rfl) (by kernel_rfl) ?_ | refine wpIn_flow (r := none) (fun k => ([1, 1, 1, 1, 1, 1, 1] : List Nat).getD k 1) Dr _ (Dr.one _) (by kernel_rfl) (by kernel_rfl) ?_
    iterate 7 ((refine flow_quiet rfl rfl (fun K hK => ?_); apply Exists.intro; apply And.intro; (focus (rintro w' ⟨nn, rfl⟩; go_simp; (try go_bits); exact ⟨rfl, Dr.of _ _⟩)); go_simp; (try go_bits); refine hK _ ?_; clear hK K))
    refine flow_nil ?_
    rintro w' ⟨nq, rfl⟩
    gi_wp2
    rw [Exit.noGoto_ret]
    have hd2 : (X.drewN nq).heap[D]? = some (.deferred (some [])) := hd
    refine ⟨by simp, .inl ⟨_, _, rfl, run_takeDeferred hd2, _, (by simp only [results, Tryz.results68]; go_simp; try rfl), rfl, (below_drewN fr nq).trans ((below_putObj _ hd2).mono (by omega))⟩⟩
end Go.Proofs.YtijidnhaijdfaaaGreatDoor
