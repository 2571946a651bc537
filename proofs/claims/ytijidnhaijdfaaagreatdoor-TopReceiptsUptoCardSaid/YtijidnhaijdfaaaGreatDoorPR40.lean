/-
  How a slice of receipts reads among the arguments, and what its bulk bounds. Conditions: none.
-/
import Derived.Test.YtijidnhaijdfaaaGreatDoorPR35
import Derived.Test.YtijidnhaijdfaaaGreatDoorPR39
namespace Go.Proofs.YtijidnhaijdfaaaGreatDoor
open Go.ChangeShapes Go.WideShapes Go.ChangeAt Go.RowKit Go.Deep
set_option linter.unusedVariables false
set_option linter.unusedSimpArgs false

/-- The letters of logs' data, and one for each log. -/
def logsW : List Lg → Nat
  | [] => 0
  | y :: l => y.d.length + 1 + logsW l
theorem logsW_len : ∀ l : List Lg, l.length ≤ logsW l
  | [] => Nat.le_refl _
  | y :: l => by
    have := logsW_len l
    simp only [logsW, List.length_cons]
    omega
theorem texts_le : ∀ l : List Bs, (∀ s ∈ l, s.length = 32) → (encs (l.map It.text)).length ≤ l.length * 41
  | [], _ => Nat.le_refl _
  | s :: l, h => by
    have h1 := text_le s
    have h2 := texts_le l fun t ht => h t (List.mem_cons_of_mem _ ht)
    have h3 := h s (List.mem_cons_self ..)
    simp only [List.map_cons, encs, List.length_append, List.length_cons]
    omega
theorem log_le (y : Lg) (h : y.right) : (enc y.item).length ≤ y.d.length + 250 := by
  obtain ⟨h1, h2, h3⟩ := h
  have e1 := list_le [.text y.a, .list (y.t.map It.text), .text y.d]
  have e2 := text_le y.a
  have e3 := list_le (y.t.map It.text)
  have e4 := texts_le y.t h3
  have e5 := text_le y.d
  simp only [encs, List.length_append, List.length_nil] at e1
  show (enc (.list [.text y.a, .list (y.t.map It.text), .text y.d])).length ≤ _
  omega
theorem logs_le : ∀ l : List Lg, (∀ y ∈ l, y.right) → (encs (l.map Lg.item)).length ≤ logsW l + l.length * 250
  | [], _ => Nat.le_refl _
  | y :: l, h => by
    have h1 := log_le y (h y (List.mem_cons_self ..))
    have h2 := logs_le l fun t ht => h t (List.mem_cons_of_mem _ ht)
    simp only [List.map_cons, encs, List.length_append, List.length_cons, logsW]
    omega
theorem rc_le (x : Rc) (h : x.right) : (enc x.item).length ≤ logsW x.logs + 5100 := by
  have e1 := list_le [.text x.goodS, .text (num x.gas), .list (x.logs.map Lg.item)]
  have e2 := text_le x.goodS
  have e3 := text_le (num x.gas)
  have e4 := num_len x.gas
  have e5 := list_le (x.logs.map Lg.item)
  have e6 := logs_le x.logs h.1
  have e7 : x.goodS.length ≤ 1 := by unfold Rc.goodS; split <;> simp
  have e8 := h.2
  simp only [encs, List.length_append, List.length_nil] at e1
  show (enc (.list [.text x.goodS, .text (num x.gas), .list (x.logs.map Lg.item)])).length ≤ _
  omega
theorem oCellsLog : Tryz.prog.cellsOf 81 = 3 := by kernel_rfl
theorem oCellsRc : Tryz.prog.cellsOf 47 = 3 := by kernel_rfl
theorem oCellsBool : Tryz.prog.cellsOf 4 = 1 := by kernel_rfl
theorem oCellsStrs : Tryz.prog.cellsOf 23 = 1 := by kernel_rfl
theorem oCellsLogs : Tryz.prog.cellsOf 45 = 1 := by kernel_rfl
theorem list3 {α : Type} (l : List α) (h : l.length = 3) : ∃ a b c, l = [a, b, c] := by
  match l, h with
  | [a, b, c], _ => exact ⟨a, b, c, rfl⟩
instance : Inhabited Lg := ⟨⟨[], [], []⟩⟩
instance : Inhabited Rc := ⟨⟨false, 0, []⟩⟩

section
variable {H : Type} {enc : TypeId × Value → H} {W : World} {sp : Nat → Bool} {held : Bool}
theorem bulk_mem {d : DataW H} : ∀ {l : List (DataW H)}, d ∈ l → Rows.uptoBulk d ≤ Rows.uptoBulkAll l
  | [], h => by cases h
  | y :: l, h => by
    simp only [Rows.uptoBulkAll]
    rcases List.mem_cons.1 h with rfl | h
    · omega
    · have := bulk_mem h
      omega
theorem logsW_bulk (f : Nat → Lg) (D : Nat → DataW H) : ∀ l : List Nat, (∀ i ∈ l, (f i).d.length + 1 ≤ Rows.uptoBulk (D i)) → logsW (l.map f) ≤ Rows.uptoBulkAll (l.map D)
  | [], _ => Nat.zero_le _
  | i :: l, h => by
    have h1 := h i (List.mem_cons_self ..)
    have h2 := logsW_bulk f D l fun j hj => h j (List.mem_cons_of_mem _ hj)
    simp only [List.map_cons, logsW, Rows.uptoBulkAll]
    omega
/-- Texts. -/
theorem trod_texts {fuel : Nat} {v : Value} {x : DataW H × List MemPlace} (hf : DataW.trod enc Tryz.prog W 0 sp held fuel 23 [v] = some x) : ∃ S : List Bs, rowF (fun _ => True) W v (S.map tx) := by
  rcases open_strings Tryz.underlying23 Tryz.underlying9 oCellsStr hf with ⟨hcs, hx⟩ | ⟨a, len, cap, ss, hcs, _, hl, hm, hsl, hx, hcell, hws⟩
  · injection hcs with hcs _
    exact ⟨[], ⟨none, 0, hcs, ⟨Nat.le_refl _, Nat.zero_le _⟩, fun i u hu => by cases hu⟩⟩
  · injection hcs with hcs _
    have hle : len ≤ ss.length := by rw [hsl]; split <;> omega
    have hlen : (ss.take len).length = len := by rw [List.length_take]; omega
    refine ⟨(ss.take len).map fun s => s.data.toList, ⟨some a, cap, ?_, ⟨?_, hm⟩, fun i u hu => ?_⟩⟩
    · rw [List.length_map, List.length_map, hlen]; exact hcs
    · rw [List.length_map, List.length_map, hlen]; exact hl
    · rw [List.map_map, List.getElem?_map] at hu
      obtain ⟨x, hx3, rfl⟩ := Option.map_eq_some_iff.1 hu
      have hil : i < len := by
        have := (List.getElem?_eq_some_iff.1 hx3).1
        omega
      have h0 := hcell 0 (by omega)
      rw [add_zero'] at h0
      obtain ⟨bl, o, rfl⟩ := plain_of h0
      refine ⟨bl, o, ⟨rfl, trivial⟩, ?_⟩
      have h1 := hcell i (by omega)
      rw [add_plain] at h1
      rw [List.getElem?_take, if_pos hil] at hx3
      rw [h1, List.getD_eq_getElem?_getD, hx3]
      show _ = some (Value.string (bsS x.data.toList))
      rw [bsS_list2]
      rfl
set_option maxRecDepth 10000 in
/-- A log. -/
theorem open_log {n : Nat} {cs : List Value} {x : DataW H × List MemPlace} (h : DataW.trod enc Tryz.prog W 0 sp held n 81 cs = some x) :
    ∃ (y : Lg) (sv : Value), cs = [.string (bsS y.a), sv, .string (bsS y.d)] ∧ rowF (fun _ => True) W sv (y.t.map tx) ∧ y.d.length + 1 ≤ Rows.uptoBulk x.1 := by
  obtain ⟨zs, m2, _, hxe, hlen, hzl, hg⟩ := DataW.trod_struct Tryz.underlying81 h
  rw [oCellsLog] at hlen
  obtain ⟨c0, c1, c2, rfl⟩ := list3 cs hlen
  obtain ⟨u0, u1, u2, rfl⟩ := list3 zs hzl
  have g0 : DataW.trod enc Tryz.prog W 0 sp held m2 9 (([c0, c1, c2].drop 0).take (Tryz.prog.cellsOf 9)) = some u0 := hg 0 _ rfl
  have g1 : DataW.trod enc Tryz.prog W 0 sp held m2 23 (([c0, c1, c2].drop 1).take (Tryz.prog.cellsOf 23)) = some u1 := hg 1 _ rfl
  have g2 : DataW.trod enc Tryz.prog W 0 sp held m2 9 (([c0, c1, c2].drop 2).take (Tryz.prog.cellsOf 9)) = some u2 := hg 2 _ rfl
  rw [oCellsStr] at g0 g2
  rw [oCellsStrs] at g1
  obtain ⟨ad, e0, _, _⟩ := DataW.trod_string Tryz.underlying9 g0
  obtain ⟨da, e2, f2, _⟩ := DataW.trod_string Tryz.underlying9 g2
  obtain ⟨S, hS⟩ := trod_texts g1
  simp at e0 e2
  subst e0 e2
  refine ⟨⟨ad.data.toList, S, da.data.toList⟩, c1, ?_, hS, ?_⟩
  · simp only [bsS_list2]
  · rw [hxe]
    simp only [f2, List.map_cons, List.map_nil, Rows.uptoBulk, Rows.uptoBulkAll]
    omega
set_option maxRecDepth 10000 in
/-- A slice of logs. -/
theorem open_logs {fuel : Nat} {v : Value} {x : DataW H × List MemPlace} (hf : DataW.trod enc Tryz.prog W 0 sp held fuel 45 [v] = some x) :
    ∃ L : List Lg, lgL (fun _ => True) W v L ∧ logsW L ≤ Rows.uptoBulk x.1 := by
  rcases open_slice Tryz.underlying45 hf with ⟨hcs, _⟩ | ⟨a, len, cap, m, n', D, Pl, hcs, hb, hl, hm, hmm, hx, hi⟩
  · injection hcs with hcs _
    exact ⟨[], ⟨none, 0, hcs, ⟨Nat.le_refl _, Nat.zero_le _⟩, fun i K hK => by cases hK⟩, Nat.zero_le _⟩
  · injection hcs with hcs _
    have hlm : len ≤ m := by rw [hmm]; split <;> omega
    have hat : ∀ i, i < len → ∃ K : Lg, (∃ sv, (W.cell? ((a.add (i * 3)).add 0) = some (.string (bsS K.a)) ∧ W.cell? ((a.add (i * 3)).add 1) = some sv ∧ W.cell? ((a.add (i * 3)).add 2) = some (.string (bsS K.d))) ∧ rowF (fun _ => True) W sv (K.t.map tx)) ∧ K.d.length + 1 ≤ Rows.uptoBulk (D i) := fun i hin => by
      obtain ⟨cs', h1, h2⟩ := hi i (by omega)
      rw [oCellsLog] at h1
      obtain ⟨_, hlen, hc⟩ := World.cells?_some h1
      obtain ⟨K, sv, rfl, hK1, hK2⟩ := open_log h2
      exact ⟨K, ⟨sv, ⟨by rw [hc 0 (by omega)]; rfl, by rw [hc 1 (by omega)]; rfl, by rw [hc 2 (by omega)]; rfl⟩, hK1⟩, hK2⟩
    obtain ⟨f, hf⟩ := choose_lt hat
    refine ⟨(List.range len).map f, ⟨some a, cap, by rw [List.length_map, List.length_range]; exact hcs, by rw [List.length_map, List.length_range]; exact ⟨hl, hm⟩, fun i K hK => ?_⟩, ?_⟩
    · have hin : i < len := by simpa using (List.getElem?_eq_some_iff.1 hK).1
      have hci : f i = K := by simpa [hin] using hK
      obtain ⟨⟨_, ⟨h0, _, _⟩, _⟩, _⟩ := hf 0 (by omega)
      rw [Nat.zero_mul, add_zero', add_zero'] at h0
      obtain ⟨bl, o, rfl⟩ := plain_of h0
      obtain ⟨⟨sv, ⟨g0, g1, g2⟩, hr⟩, _⟩ := hf i hin
      rw [hci] at g0 g2 hr
      simp only [add_plain] at g0 g1 g2
      rw [Nat.add_zero] at g0
      exact ⟨bl, o, ⟨rfl, trivial⟩, g0, ⟨sv, g1, hr⟩, g2⟩
    · rw [hx]
      simp only [Rows.uptoBulk]
      have := logsW_bulk f D (List.range len) fun i hin => (hf i (List.mem_range.1 hin)).2
      omega
set_option maxRecDepth 10000 in
/-- A receipt. -/
theorem open_rc {n : Nat} {cs : List Value} {x : DataW H × List MemPlace} (h : DataW.trod enc Tryz.prog W 0 sp held n 47 cs = some x) :
    ∃ (y : Rc) (lv : Value), cs = [.bool y.good, .int .u64 (y.gas : Nat), lv] ∧ lgL (fun _ => True) W lv y.logs ∧ y.gas < 18446744073709551616 ∧ logsW y.logs ≤ Rows.uptoBulk x.1 := by
  obtain ⟨zs, m2, _, hxe, hlen, hzl, hg⟩ := DataW.trod_struct Tryz.underlying47 h
  rw [oCellsRc] at hlen
  obtain ⟨c0, c1, c2, rfl⟩ := list3 cs hlen
  obtain ⟨u0, u1, u2, rfl⟩ := list3 zs hzl
  have g0 : DataW.trod enc Tryz.prog W 0 sp held m2 4 (([c0, c1, c2].drop 0).take (Tryz.prog.cellsOf 4)) = some u0 := hg 0 _ rfl
  have g1 : DataW.trod enc Tryz.prog W 0 sp held m2 29 (([c0, c1, c2].drop 1).take (Tryz.prog.cellsOf 29)) = some u1 := hg 1 _ rfl
  have g2 : DataW.trod enc Tryz.prog W 0 sp held m2 45 (([c0, c1, c2].drop 2).take (Tryz.prog.cellsOf 45)) = some u2 := hg 2 _ rfl
  rw [oCellsBool] at g0
  rw [oCellsU64] at g1
  rw [oCellsLogs] at g2
  obtain ⟨gd, e0, _⟩ := DataW.trod_bool Tryz.underlying4 g0
  obtain ⟨gs, e1, _, wn⟩ := DataW.trod_int Tryz.underlying29 g1
  obtain ⟨L, hL, hw⟩ := open_logs g2
  have hmin : IntKind.u64.min = 0 := by decide
  have hmax : IntKind.u64.max = 18446744073709551615 := by decide +kernel
  simp only [Lit.wf, hmin, hmax, Bool.and_eq_true, decide_eq_true_eq] at wn
  obtain ⟨nn, rfl⟩ : ∃ k : Nat, gs = k := ⟨gs.toNat, by omega⟩
  simp at e0 e1
  subst e0 e1
  refine ⟨⟨gd, nn, L⟩, c2, rfl, hL, by show nn < _; omega, ?_⟩
  rw [hxe]
  simp only [List.map_cons, List.map_nil, Rows.uptoBulk, Rows.uptoBulkAll]
  omega
set_option maxRecDepth 10000 in
/-- A slice of receipts. -/
theorem open_rcs {base : Nat} {v : Value} {d : DataW H} {p : List MemPlace} (hv : Value.okWide Tryz.prog W .any base 43 v) (h : DataW.Trod enc Tryz.prog W 0 sp held 43 v d p) :
    ∃ L : List Rc, rcpL W v L ∧ ∀ x ∈ L, x.gas < 18446744073709551616 ∧ logsW x.logs ≤ Rows.uptoBulk d := by
  obtain ⟨a0, len0, cap0, rfl⟩ := okWide_slice Tryz.underlying43 hv
  obtain ⟨fuel, hf⟩ := h
  rcases open_slice Tryz.underlying43 hf with ⟨hcs, _⟩ | ⟨a, len, cap, m, n', D, Pl, hcs, hb, hl, hm, hmm, hx, hi⟩
  · replace hcs : [Value.slice a0 len0 cap0] = [Value.slice none 0 0] := hcs
    injection hcs with hcs _
    exact ⟨[], ⟨none, 0, hcs, fun i K hK => by cases hK⟩, fun K hK => by cases hK⟩
  · replace hcs : [Value.slice a0 len0 cap0] = [Value.slice (some a) len cap] := hcs
    injection hcs with hcs _
    injection hx with hx1 hx2
    have hlm : len ≤ m := by rw [hmm]; split <;> omega
    have hat : ∀ i, i < len → ∃ K : Rc, (∃ lv, (W.cell? ((a.add (i * 3)).add 0) = some (.bool K.good) ∧ W.cell? ((a.add (i * 3)).add 1) = some (.int .u64 (K.gas : Nat)) ∧ W.cell? ((a.add (i * 3)).add 2) = some lv) ∧ lgL (fun _ => True) W lv K.logs) ∧ K.gas < 18446744073709551616 ∧ logsW K.logs ≤ Rows.uptoBulk (D i) := fun i hin => by
      obtain ⟨cs', h1, h2⟩ := hi i (by omega)
      rw [oCellsRc] at h1
      obtain ⟨_, hlen, hc⟩ := World.cells?_some h1
      obtain ⟨K, lv, rfl, hK1, hK2⟩ := open_rc h2
      exact ⟨K, ⟨lv, ⟨by rw [hc 0 (by omega)]; rfl, by rw [hc 1 (by omega)]; rfl, by rw [hc 2 (by omega)]; rfl⟩, hK1⟩, hK2⟩
    obtain ⟨f, hf⟩ := choose_lt hat
    refine ⟨(List.range len).map f, ⟨some a, cap, by rw [List.length_map, List.length_range]; exact hcs, fun i K hK => ?_⟩, fun K hK => ?_⟩
    · have hin : i < len := by simpa using (List.getElem?_eq_some_iff.1 hK).1
      have hci : f i = K := by simpa [hin] using hK
      obtain ⟨⟨_, ⟨h0, _, _⟩, _⟩, _⟩ := hf 0 (by omega)
      rw [Nat.zero_mul, add_zero', add_zero'] at h0
      obtain ⟨bl, o, rfl⟩ := plain_of h0
      obtain ⟨⟨lv, ⟨g0, g1, g2⟩, hr⟩, _⟩ := hf i hin
      rw [hci] at g0 g1 hr
      simp only [add_plain] at g0 g1 g2
      rw [Nat.add_zero] at g0
      exact ⟨bl, o, rfl, g0, g1, lv, g2, hr⟩
    · obtain ⟨i, hin, rfl⟩ := List.mem_map.1 hK
      obtain ⟨_, h1, h2⟩ := hf i (List.mem_range.1 hin)
      have h3 := bulk_mem (List.mem_map.2 ⟨i, hin, rfl⟩ : D i ∈ (List.range len).map D)
      refine ⟨h1, ?_⟩
      rw [hx1]
      simp only [Rows.uptoBulk]
      omega
end
end Go.Proofs.YtijidnhaijdfaaaGreatDoor
