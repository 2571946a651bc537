/-
  How the listed tables, a slice of accounts and a slice of texts read among the arguments. Conditions: none.
-/
import Derived.Test.YtijidnhaijdfaaaGreatDoorRows
import Derived.Test.YtijidnhaijdfaaaGreatDoorPR34
import Derived.LaidMore
import Derived.Lay
import Derived.OpenShut
import Derived.ShutString
import Derived.SizedLaws
import Derived.ChangeOld
import Derived.ChangeSame
import Derived.Below
import Derived.SliceStrings
import Derived.Laws.IdiomArrays
import Derived.Deep.Slices
import Derived.Deep.Fields
import Derived.Stop.Joined
namespace Go.Proofs.YtijidnhaijdfaaaGreatDoor
open Go.ChangeShapes Go.WideShapes Go.ChangeAt Go.RowKit Go.Deep
set_option linter.unusedVariables false
set_option linter.unusedSimpArgs false

theorem own : ownKnob Tryz.prog.godebug = none := by kernel_rfl
theorem laidOut : laidOutB Tryz.prog = true := by kernel_rfl
def laid5 : List (String × DataW Unit) := [("unicode/utf8.acceptRanges", Rows.laid_unicode_utf8_acceptRanges), ("pharos/keccak.constants", Rows.laid_pharos_keccak_constants), ("pharos/keccak.turns", Rows.laid_pharos_keccak_turns), ("pharos/keccak.places", Rows.laid_pharos_keccak_places), ("unicode/utf8.first", Rows.laid_unicode_utf8_first)]
theorem oCellsWord : Tryz.prog.cellsOf 31 = 4 := by kernel_rfl
theorem oCellsU64 : Tryz.prog.cellsOf 29 = 1 := by kernel_rfl
theorem oCellsAcct : Tryz.prog.cellsOf 33 = 7 := by kernel_rfl
theorem oCellsStr : Tryz.prog.cellsOf 9 = 1 := by kernel_rfl
theorem add_plain (b o i : Nat) : (⟨b, o, none⟩ : Addr).add i = ⟨b, o + i, none⟩ := by
  unfold Addr.add
  split
  · rename_i h
    subst h
    rfl
  · rfl
theorem plain_of {W : World} {a : Addr} {v : Value} (h : W.cell? a = some v) : ∃ b o, a = ⟨b, o, none⟩ := by
  obtain ⟨b, o, s⟩ := a
  cases s with
  | none => exact ⟨b, o, rfl⟩
  | some q =>
    exfalso
    have : W.cell? (⟨b, o, some q⟩ : Addr) = none := by
      unfold World.cell?
      split
      · simp
      · rfl
    rw [this] at h
    cases h
theorem add_zero' (a : Addr) : a.add 0 = a := by unfold Addr.add; rw [if_pos rfl]
theorem list7 {α : Type} (l : List α) (h : l.length = 7) : ∃ a b c d e f g, l = [a, b, c, d, e, f, g] := by
  match l, h with
  | [a, b, c, d, e, f, g], _ => exact ⟨a, b, c, d, e, f, g, rfl⟩
instance : Inhabited Ac := ⟨⟨0, 0, [], []⟩⟩

section
variable {H : Type} {enc : TypeId × Value → H} {W : World} {sp : Nat → Bool} {held : Bool}
theorem word_of_wf {x0 x1 x2 x3 : Int} (w0 : (Lit.int .u64 x0).wf = true) (w1 : (Lit.int .u64 x1).wf = true) (w2 : (Lit.int .u64 x2).wf = true) (w3 : (Lit.int .u64 x3).wf = true) :
    ∃ n, n < Q256 ∧ x0 = (lb n 0 : Nat) ∧ x1 = (lb n 1 : Nat) ∧ x2 = (lb n 2 : Nat) ∧ x3 = (lb n 3 : Nat) := by
  have hmin : IntKind.u64.min = 0 := by decide
  have hmax : IntKind.u64.max = 18446744073709551615 := by decide +kernel
  simp only [Lit.wf, hmin, hmax, Bool.and_eq_true, decide_eq_true_eq] at w0 w1 w2 w3
  have e := lb_val4 (a := x0.toNat) (b := x1.toNat) (c := x2.toNat) (d := x3.toNat) (by unfold M64; omega) (by unfold M64; omega) (by unfold M64; omega) (by unfold M64; omega)
  refine ⟨val4 x0.toNat x1.toNat x2.toNat x3.toNat, val4_lt (by unfold M64; omega) (by unfold M64; omega) (by unfold M64; omega) (by unfold M64; omega), ?_, ?_, ?_, ?_⟩
  · rw [e.1]; omega
  · rw [e.2.1]; omega
  · rw [e.2.2.1]; omega
  · rw [e.2.2.2]; omega
theorem open_w {n : Nat} {c0 c1 c2 c3 : Value} {x : DataW H × List MemPlace} (h : DataW.trod enc Tryz.prog W 0 sp held n 31 [c0, c1, c2, c3] = some x) :
    ∃ k, k < Q256 ∧ c0 = .int .u64 (lb k 0 : Nat) ∧ c1 = .int .u64 (lb k 1 : Nat) ∧ c2 = .int .u64 (lb k 2 : Nat) ∧ c3 = .int .u64 (lb k 3 : Nat) := by
  obtain ⟨y0, y1, y2, y3, m, hx, hy0, hy1, hy2, hy3⟩ := trod_array4 Tryz.underlying31 oCellsU64 h
  obtain ⟨x0, e0, _, w0⟩ := DataW.trod_int Tryz.underlying29 hy0
  obtain ⟨x1, e1, _, w1⟩ := DataW.trod_int Tryz.underlying29 hy1
  obtain ⟨x2, e2, _, w2⟩ := DataW.trod_int Tryz.underlying29 hy2
  obtain ⟨x3, e3, _, w3⟩ := DataW.trod_int Tryz.underlying29 hy3
  simp at e0 e1 e2 e3
  subst e0 e1 e2 e3
  obtain ⟨k, hk, rfl, rfl, rfl, rfl⟩ := word_of_wf w0 w1 w2 w3
  exact ⟨k, hk, rfl, rfl, rfl, rfl⟩
set_option maxRecDepth 10000 in
/-- An account. -/
theorem open_acct {n : Nat} {cs : List Value} {x : DataW H × List MemPlace} (h : DataW.trod enc Tryz.prog W 0 sp held n 33 cs = some x) :
    ∃ A : Ac, cs = A.v.cells.toList ∧ A.wf := by
  obtain ⟨zs, m2, _, _, hlen, hzl, hg⟩ := DataW.trod_struct Tryz.underlying33 h
  rw [oCellsAcct] at hlen
  obtain ⟨c2, c3, c4, c5, c6, c7, c8, rfl⟩ := list7 cs hlen
  have hz4 : zs.length = 4 := hzl
  have hz : ∀ i, i < 4 → ∃ y, zs[i]? = some y := fun i hi => ⟨_, List.getElem?_eq_getElem (by omega)⟩
  have g0 : DataW.trod enc Tryz.prog W 0 sp held m2 29 (([c2, c3, c4, c5, c6, c7, c8].drop 0).take (Tryz.prog.cellsOf 29)) = zs[0]? := hg 0 _ rfl
  have g1 : DataW.trod enc Tryz.prog W 0 sp held m2 31 (([c2, c3, c4, c5, c6, c7, c8].drop 1).take (Tryz.prog.cellsOf 31)) = zs[1]? := hg 1 _ rfl
  have g2 : DataW.trod enc Tryz.prog W 0 sp held m2 9 (([c2, c3, c4, c5, c6, c7, c8].drop 5).take (Tryz.prog.cellsOf 9)) = zs[2]? := hg 2 _ rfl
  have g3 : DataW.trod enc Tryz.prog W 0 sp held m2 9 (([c2, c3, c4, c5, c6, c7, c8].drop 6).take (Tryz.prog.cellsOf 9)) = zs[3]? := hg 3 _ rfl
  rw [oCellsU64] at g0
  rw [oCellsWord] at g1
  rw [oCellsStr] at g2 g3
  obtain ⟨u0, k0⟩ := hz 0 (by omega)
  obtain ⟨u1, k1⟩ := hz 1 (by omega)
  obtain ⟨u2, k2⟩ := hz 2 (by omega)
  obtain ⟨u3, k3⟩ := hz 3 (by omega)
  obtain ⟨no, d0, _, wn⟩ := DataW.trod_int Tryz.underlying29 (g0.trans k0)
  obtain ⟨ba, hba, d1, d2, d3, d4⟩ := open_w (g1.trans k1)
  obtain ⟨rt, d5, _, wrt⟩ := DataW.trod_string Tryz.underlying9 (g2.trans k2)
  obtain ⟨cd, d6, _, wcd⟩ := DataW.trod_string Tryz.underlying9 (g3.trans k3)
  simp at d0 d5 d6
  have hmin : IntKind.u64.min = 0 := by decide
  have hmax : IntKind.u64.max = 18446744073709551615 := by decide +kernel
  simp only [Lit.wf, hmin, hmax, Bool.and_eq_true, decide_eq_true_eq] at wn
  obtain ⟨nn, rfl⟩ : ∃ k : Nat, no = k := ⟨no.toNat, by omega⟩
  subst d0 d1 d2 d3 d4 d5 d6
  refine ⟨⟨nn, ba, rt.data.toList, cd.data.toList⟩, ?_, ⟨by simp only; omega, hba⟩⟩
  show _ = (Ac.v _).cells.toList
  unfold Ac.v
  simp only [bsS_list2]
  rfl
set_option maxRecDepth 10000 in
/-- A slice of accounts. -/
theorem open_accts {base : Nat} {v : Value} {d : DataW H} {p : List MemPlace} (hv : Value.okWide Tryz.prog W .any base 22 v) (h : DataW.Trod enc Tryz.prog W 0 sp held 22 v d p) :
    ∃ L : List Ac, acL W v L ∧ ∀ A ∈ L, A.wf := by
  obtain ⟨a0, len0, cap0, rfl⟩ := okWide_slice Tryz.underlying22 hv
  obtain ⟨fuel, hf⟩ := h
  rcases open_slice Tryz.underlying22 hf with ⟨hcs, _⟩ | ⟨a, len, cap, m, n', D, Pl, hcs, hb, hl, hm, hmm, hx, hi⟩
  · replace hcs : [Value.slice a0 len0 cap0] = [Value.slice none 0 0] := hcs
    injection hcs with hcs _
    exact ⟨[], ⟨none, 0, hcs, fun i K hK => by cases hK⟩, fun K hK => by cases hK⟩
  · replace hcs : [Value.slice a0 len0 cap0] = [Value.slice (some a) len cap] := hcs
    injection hcs with hcs _
    have hlm : len ≤ m := by rw [hmm]; split <;> omega
    have hat : ∀ i, i < len → ∃ K : Ac, (∀ j u, K.v.cells[j]? = some u → W.cell? ((a.add (i * 7)).add j) = some u) ∧ K.wf := fun i hin => by
      obtain ⟨cs', h1, h2⟩ := hi i (by omega)
      rw [oCellsAcct] at h1
      obtain ⟨_, hlen, hc⟩ := World.cells?_some h1
      obtain ⟨K, rfl, hK1⟩ := open_acct h2
      refine ⟨K, fun j u hu => ?_, hK1⟩
      have hj : j < 7 := (Array.getElem?_eq_some_iff.1 hu).1
      rw [hc j hj]
      simpa using hu
    obtain ⟨f, hf⟩ := choose_lt hat
    refine ⟨(List.range len).map f, ⟨some a, cap, by rw [List.length_map, List.length_range]; exact hcs, fun i K hK => ?_⟩, fun K hK => ?_⟩
    · have hin : i < len := by simpa using (List.getElem?_eq_some_iff.1 hK).1
      have hci : f i = K := by simpa [hin] using hK
      have h0 := (hf 0 (by omega)).1 0 _ rfl
      rw [Nat.zero_mul, add_zero', add_zero'] at h0
      obtain ⟨bl, o, rfl⟩ := plain_of h0
      obtain ⟨g1, _⟩ := hf i hin
      rw [hci] at g1
      simp only [add_plain] at g1
      refine ⟨bl, o, rfl, ?_⟩
      have e0 := g1 0 _ rfl
      rw [Nat.add_zero] at e0
      exact ⟨e0, g1 1 _ rfl, g1 2 _ rfl, g1 3 _ rfl, g1 4 _ rfl, g1 5 _ rfl, g1 6 _ rfl⟩
    · obtain ⟨i, hi, rfl⟩ := List.mem_map.1 hK
      exact (hf i (List.mem_range.1 hi)).2
theorem weights_strs {e : TypeId} (l : List ByteArray) (x : ByteArray) (hx : x ∈ l) : x.size ∈ DataW.weightsAll (H := H) Tryz.prog e (strs l) := by
  induction l with
  | nil => cases hx
  | cons y r ih =>
    simp only [strs, List.map_cons, DataW.weightsAll, List.mem_append]
    rcases List.mem_cons.1 hx with rfl | hx
    · left
      simp [DataW.weights]
    · exact .inr (ih hx)
set_option maxRecDepth 100000 in
/-- A slice of texts, none of them longer than a text can be. -/
theorem open_texts {base : Nat} {v : Value} {d : DataW H} {p : List MemPlace} (hv : Value.okWide Tryz.prog W .any base 23 v) (h : DataW.Trod enc Tryz.prog W 0 sp held 23 v d p)
    (hz : (DataW.weights Tryz.prog 23 d).all (· ≤ reachBytes) = true) : ∃ S : List Bs, rowF (fun _ => True) W v (S.map fun s => .string (bsS s)) ∧ ∀ s ∈ S, s.length ≤ 140737488351232 := by
  obtain ⟨a0, len, cap, rfl⟩ := okWide_slice Tryz.underlying23 hv
  obtain ⟨fuel, hf⟩ := h
  rcases open_strings Tryz.underlying23 Tryz.underlying9 oCellsStr hf with ⟨hcs, hx⟩ | ⟨a, len', cap', ss, hcs, _, hl, hm, hsl, hx, hcell, hws⟩
  · replace hcs : [Value.slice a0 len cap] = [Value.slice none 0 0] := hcs
    injection hcs with hcs _
    exact ⟨[], ⟨none, 0, hcs, ⟨Nat.le_refl _, Nat.zero_le _⟩, fun i u hu => by cases hu⟩, fun x hx => by cases hx⟩
  · replace hcs : [Value.slice a0 len cap] = [Value.slice (some a) len' cap'] := hcs
    injection hcs with hcs _
    injection hcs with e1 e2 e3
    subst e1 e2 e3
    injection hx with hx1 hx2
    have hle : len ≤ ss.length := by rw [hsl]; split <;> omega
    have hlen : (ss.take len).length = len := by rw [List.length_take]; omega
    refine ⟨(ss.take len).map fun s => s.data.toList, ⟨some a, cap, ?_, ⟨?_, hm⟩, fun i u hu => ?_⟩, fun s hs => ?_⟩
    · rw [List.length_map, List.length_map, hlen]
    · rw [List.length_map, List.length_map, hlen]; exact hl
    · rw [List.map_map, List.getElem?_map] at hu
      obtain ⟨x, hx3, rfl⟩ := Option.map_eq_some_iff.1 hu
      have hil : i < len := by
        have := (List.getElem?_eq_some_iff.1 hx3).1
        omega
      have h0 := hcell 0 (by omega)
      rw [add_zero'] at h0
      obtain ⟨bl, o, rfl⟩ := plain_of h0
      refine ⟨bl, o, ⟨rfl, trivial⟩, ?_⟩
      have h1 := hcell i (by omega)
      rw [add_plain] at h1
      rw [List.getElem?_take, if_pos hil] at hx3
      rw [h1, List.getD_eq_getElem?_getD, hx3]
      show _ = some (Value.string (bsS x.data.toList))
      rw [bsS_list2]
      rfl
    · obtain ⟨x, hx3, rfl⟩ := List.mem_map.1 hs
      have hmem := weights_strs (H := H) (e := 9) _ x hx3
      have h1 : x.size ∈ DataW.weights Tryz.prog 23 d := by
        rw [hx1]
        simp only [DataW.weights, Tryz.underlying23, List.mem_cons, List.mem_append]
        exact .inr (.inl hmem)
      have h2 := List.all_eq_true.1 hz _ h1
      have h3 : x.size ≤ reachBytes := by simpa using h2
      have h4 : x.data.toList.length = x.size := by rw [Array.length_toList]; rfl
      rw [h4]
      exact Nat.le_trans h3 (by decide)
end

theorem gRc : Tryz.prog.globalNamed "pharos/keccak.constants" = some 2 := by kernel_rfl
theorem gTurns : Tryz.prog.globalNamed "pharos/keccak.turns" = some 1 := by kernel_rfl
theorem gPlaces : Tryz.prog.globalNamed "pharos/keccak.places" = some 0 := by kernel_rfl
theorem tRc : (Tryz.prog.globals[2]?).map (·.type) = some 105 := by kernel_rfl
theorem tTurns : (Tryz.prog.globals[1]?).map (·.type) = some 103 := by kernel_rfl
theorem tPlaces : (Tryz.prog.globals[0]?).map (·.type) = some 103 := by kernel_rfl
set_option maxRecDepth 100000 in
/-- A table's row, out of its reading. -/
theorem tab_of {κ : IntKind} {W : World} {n t e fuel : Nat} {cs : Array Value} {f : Nat → Nat} {d : DataW Unit} {ps : List MemPlace} {enc : TypeId × Value → Unit} {base : Nat} {sp : Nat → Bool} {held : Bool}
    (hu : Tryz.prog.underlying t = some (.array n e)) (he : Tryz.prog.underlying e = some (.int κ)) (hce : Tryz.prog.cellsOf e = 1) (hct : Tryz.prog.cellsOf t = n)
    (h : DataW.trod enc Tryz.prog W base sp held fuel t cs.toList = some (d, ps)) (hd : d = .agg ((List.range n).map fun i => .lit (.int κ (f i : Nat)))) : cs = numA κ n f := by
  obtain ⟨xs, m, rfl, hx, hlen, hn, hel⟩ := DataW.trod_array hu h
  rw [hct] at hlen
  injection hx with hx1 hx2
  rw [hd] at hx1
  injection hx1 with hx1
  apply Array.ext_getElem?
  intro i
  by_cases hi : i < n
  · rw [numA_get hi]
    have h1 := hel i hi
    rw [hce, Nat.mul_one] at h1
    obtain ⟨x, hxi⟩ : ∃ x, xs[i]? = some x := ⟨_, List.getElem?_eq_getElem (by omega)⟩
    rw [hxi] at h1
    obtain ⟨k, e1, e2, _⟩ := DataW.trod_int he h1
    have h2 : (xs.map (·.1))[i]? = some (.lit (.int κ (f i : Nat))) := by rw [← hx1]; simp [hi]
    rw [List.getElem?_map, hxi, e2] at h2
    simp at h2
    have h3 : cs.toList[i]? = some (.int κ k) := by
      have h4 : ((cs.toList.drop i).take 1)[0]? = some (.int κ k) := by rw [e1]; rfl
      simpa using h4
    rw [← h2]
    simpa using h3
  · rw [Array.getElem?_eq_none (by have : cs.size = n := by simpa using hlen
                                   omega), Array.getElem?_eq_none (by simp [numA_size]; omega)]
theorem block_of {W : World} {name : String} {g : Nat} {cs : Array Value} (hg : Tryz.prog.globalNamed name = some g) (h : W.var? Tryz.prog name = some cs) : ∃ t fr, W.heap[g]? = some (.cells cs t fr) := by
  simp only [World.var?, hg, Option.bind_some] at h
  split at h
  · rename_i c t fr hh
    injection h with h
    subst h
    exact ⟨t, fr, hh⟩
  · cases h
set_option maxRecDepth 100000 in
/-- What the condition gives the walks. -/
theorem of_laid {W : World} (h : laidMetH Tryz.prog laid5 W) : 3 ≤ W.heap.size ∧ KT W := by
  rw [MakeChecks.laidMetH_plain _ _ _ (by kernel_rfl)] at h
  obtain ⟨ps, ⟨_, _, _, _, _, _, _, _, _, _, ⟨g0, t0, cs0, f0, p0, q0, hg0, ht0, hv0, hd0, ⟨g1, t1, cs1, f1, p1, q1, hg1, ht1, hv1, hd1, ⟨g2, t2, cs2, f2, p2, q2, hg2, ht2, hv2, hd2, _, _⟩, _⟩, _⟩, _⟩, _, _⟩ := h
  obtain rfl := Option.some.inj (gRc.symm.trans hg0)
  obtain rfl := Option.some.inj (gTurns.symm.trans hg1)
  obtain rfl := Option.some.inj (gPlaces.symm.trans hg2)
  obtain rfl := Option.some.inj (tRc.symm.trans ht0)
  obtain rfl := Option.some.inj (tTurns.symm.trans ht1)
  obtain rfl := Option.some.inj (tPlaces.symm.trans ht2)
  have c0 := tab_of (κ := .u64) (f := rcF) Tryz.underlying105 Tryz.underlying29 (by kernel_rfl) (by kernel_rfl) hd0 (by rfl)
  have c1 := tab_of (κ := .i64) (f := turnsF) Tryz.underlying103 Tryz.underlying3 (by kernel_rfl) (by kernel_rfl) hd1 (by rfl)
  have c2 := tab_of (κ := .i64) (f := placesF) Tryz.underlying103 Tryz.underlying3 (by kernel_rfl) (by kernel_rfl) hd2 (by rfl)
  subst c0 c1 c2
  obtain ⟨u0, r0, b0⟩ := block_of gRc hv0
  obtain ⟨u1, r1, b1⟩ := block_of gTurns hv1
  obtain ⟨u2, r2, b2⟩ := block_of gPlaces hv2
  have hs0 := (Array.getElem?_eq_some_iff.1 b0).1
  have hs1 := (Array.getElem?_eq_some_iff.1 b1).1
  have hs2 := (Array.getElem?_eq_some_iff.1 b2).1
  exact ⟨by omega, ⟨u2, r2, b2⟩, ⟨u1, r1, b1⟩, ⟨u0, r0, b0⟩⟩
set_option maxRecDepth 100000 in
theorem laid_met (os : Os) (args : Array Value) : laidMet Tryz.prog laid5 ((World.laidAll Tryz.prog os laid5).forCall (fun _ _ => 0) ⟨#[], args, []⟩).memory :=
  laidMet_laidAll _ (by kernel_rfl) (by kernel_rfl)
end Go.Proofs.YtijidnhaijdfaaaGreatDoor
