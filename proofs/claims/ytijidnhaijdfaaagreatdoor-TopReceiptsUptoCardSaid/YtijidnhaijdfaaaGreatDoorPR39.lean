/-
  Texts of one proof, one behind the other. Conditions: each text's own line says them.
-/
import Derived.Test.YtijidnhaijdfaaaGreatDoorPR37
import Derived.Test.YtijidnhaijdfaaaGreatDoorPR34
import Derived.Test.YtijidnhaijdfaaaGreatDoorPR38

/- The pairs of receipts by their numbers. Conditions: none. -/
namespace Go.Proofs.YtijidnhaijdfaaaGreatDoor
open Go.RowKit
set_option linter.unusedSimpArgs false
set_option linter.unusedVariables false

/-- The key of a number. -/
def keyB (k : Nat) : Bs := enc (.text (num k))
/-- The pairs of receipts. -/
def rcs (Z : List Rc) : List Lf := Z.mapIdx fun k x => (keyB k, enc x.item)
theorem rcs_snoc (Z : List Rc) (x : Rc) : rcs (Z ++ [x]) = rcs Z ++ [(keyB Z.length, enc x.item)] := by
  unfold rcs
  rw [List.mapIdx_concat]
theorem rcs_get (Z : List Rc) (i : Nat) : (rcs Z)[i]? = Z[i]?.map fun x => (keyB i, enc x.item) := by
  unfold rcs
  rw [List.getElem?_mapIdx]
theorem rcs_len (Z : List Rc) : (rcs Z).length = Z.length := by
  unfold rcs
  rw [List.length_mapIdx]
theorem key_len : ∀ i < 20, (keyB i).length = 1 := by decide +kernel
theorem key_one : ∀ i < 20, ∀ j < 20, keyB i = keyB j → i = j := by decide +kernel
theorem rcs_ok {Z : List Rc} (h20 : Z.length ≤ 20) (h : ∀ x ∈ Z, (enc x.item).length ≤ 1000) : okP 1 (rcs Z) := by
  have hg : ∀ (i : Nat) (p : Lf), (rcs Z)[i]? = some p → i < 20 ∧ ∃ x ∈ Z, p = (keyB i, enc x.item) := fun i p hp => by
    rw [rcs_get] at hp
    obtain ⟨x, hx, rfl⟩ := Option.map_eq_some_iff.1 hp
    have := (List.getElem?_eq_some_iff.1 hx).1
    exact ⟨by omega, x, List.mem_of_getElem? hx, rfl⟩
  refine ⟨Nat.le_refl 1, by decide, fun p hp => ?_, ?_, by rw [rcs_len]; omega⟩
  · obtain ⟨i, hi⟩ := List.getElem?_of_mem hp
    obtain ⟨h1, x, hx, rfl⟩ := hg i p hi
    exact ⟨key_len i h1, enc_ne _, h x hx⟩
  · rw [List.nodup_iff_pairwise_ne, List.pairwise_iff_getElem]
    intro i j hi hj hij e
    rw [List.getElem_map, List.getElem_map] at e
    rw [List.length_map] at hi hj
    obtain ⟨h1, x, _, e1⟩ := hg i _ (List.getElem?_eq_getElem hi)
    obtain ⟨h2, y, _, e2⟩ := hg j _ (List.getElem?_eq_getElem hj)
    rw [e1, e2] at e
    have := key_one i h1 j h2 e
    omega
end Go.Proofs.YtijidnhaijdfaaaGreatDoor

/- Receipts in a trie: TopReceipts. Conditions: receipts that are not too long. -/
namespace Go.Proofs.YtijidnhaijdfaaaGreatDoor
open Go.RowKit
attribute [local go_sem] leftBy leaves Oper.semAt_some
set_option linter.unusedSimpArgs false
set_option linter.unusedVariables false

/-- What a receipt's bytes are: short and right, or else TopReceipts ends. -/
theorem rcRes_cases (x : Rc) : (x.right ∧ (enc x.item).length ≤ 1000 ∧ rcRes x = .tuple #[.string (bsS (enc x.item)), .int .i64 0]) ∨ rcRes x = .tuple #[.string ⟨#[]⟩, .int .i64 160] ∨ rcRes x = .tuple #[.string ⟨#[]⟩, .int .i64 42] ∨ (1000 < (enc x.item).length ∧ rcRes x = .tuple #[.string (bsS (enc x.item)), .int .i64 0]) := by
  unfold rcRes
  by_cases hr : x.right
  · rw [if_pos hr]
    by_cases hl : (enc x.item).length ≤ 65536
    · rw [if_pos hl]
      by_cases h1 : (enc x.item).length ≤ 1000
      · exact .inl ⟨hr, h1, rfl⟩
      · exact .inr (.inr (.inr ⟨by omega, rfl⟩))
    · rw [if_neg hl]
      exact .inr (.inr (.inl rfl))
  · rw [if_neg hr]
    exact .inr (.inl rfl)
theorem rcs_val {Z : List Rc} {m : Nat} {x : Rc} (h20 : Z.length ≤ 20) (h : ∀ y ∈ Z, (enc y.item).length ≤ 1000) (hx : Z[m]? = some x) : valOf 1 (rcs Z) (keyB m) = enc x.item := by
  have hm := (List.getElem?_eq_some_iff.1 hx).1
  have hp : (rcs Z)[m]? = some (keyB m, enc x.item) := by rw [rcs_get, hx, Option.map_some]
  exact (valOf_spec (rcs_ok h20 h) (fun e => by rw [e] at hp; cases hp) (keyB m) (key_len m (by omega))).1 _ (List.mem_of_getElem? hp)

set_option maxRecDepth 100000 in
set_option maxHeartbeats 16000000 in
theorem top_rc (L : List Rc) (ix : Int) (W : World) (lv : Value) (hl : rcpL W lv L) (hG : ∀ x ∈ L, x.gas < 18446744073709551616) (hN : ∀ x ∈ L, x.logs.length ≤ 2000000) (hE : ∀ x ∈ L, x.right → (enc x.item).length ≤ 4000000) (hT : KT W) (h3 : 3 ≤ W.heap.size) :
    Calls Tryz.prog 4 #[lv, .int .i64 ix] W fun e w' => e = .returned (.bool true) ∧ Below W.heap.size W w' := by
  have cS := fun w (hb : Below W.heap.size W w) => shown_any w (hT.below hb h3) (by have := hb.size; omega)
  obtain ⟨i0, hi, hz0, hz1, hz2⟩ := info_parts infoPr
  obtain ⟨Z, hZ⟩ : ∃ Z, Z = L.take 20 := ⟨_, rfl⟩
  have hZl : Z.length = min L.length 20 := by rw [hZ, List.length_take]; omega
  obtain ⟨la, lc, rfl, hlc⟩ := hl
  have cSh := Lib.hid cS
  clear cS
  go_enter Tryz.func4, Tryz.ntmps4
  go_wp2_with (go_at_call 5; refine (cSh.out _ (Below.refl _ W)).mono ?_; rintro e w2 ⟨rfl, hb2⟩)
  have hzw : W.heap.size ≤ w2.heap.size := hb2.size
  go_loopw [6, 7] (fun o x wr => ∃ i : Nat, i ≤ Z.length ∧ x = .int .i64 (i : Nat) ∧ (∀ y ∈ Z.take i, y.right ∧ (enc y.item).length ≤ 1000) ∧ wr.ownsRow w2.heap.size 36 2 o i (lfC (rcs (Z.take i))) ∧ Below w2.heap.size w2 wr) (fun o x _ => Z.length - (intOf x).toNat)
  case atStart => exact ⟨0, Nat.zero_le _, rfl, (fun p h => by cases h), World.ownsRow_nil _ _ _ _, Below.refl _ _⟩
  case round =>
    obtain ⟨i, hil, rfl, hrt, hrow, hbel⟩ := hrel
    by_cases hlt : i < Z.length
    · have hi20 : (i : Int) < 20 := by omega
      have hin20 : i < 20 := by omega
      have hiL : (i : Int) < (L.length : Int) := by omega
      have hiLn : i < L.length := by omega
      obtain ⟨x, hx⟩ : ∃ x, L[i]? = some x := ⟨_, List.getElem?_eq_getElem hiLn⟩
      have hZi : Z[i]? = some x := by
        rw [hZ, List.getElem?_take, if_pos (by omega)]
        exact hx
      obtain ⟨bl, o, rfl, hrc⟩ := hlc i x hx
      have hbW := hb2.trans (hbel.mono hzw)
      have hrcr := hrc.below hbW
      obtain ⟨c0, c1, lw, c2, hlw⟩ := hrcr
      obtain ⟨wa, wc, rfl, _⟩ := id hlw
      have hxm := List.mem_of_getElem? hx
      have cA := ReceiptBytes_any x (hG x hxm) (hN x hxm) (hE x hxm) wr (.agg #[.bool x.good, .int .u64 (x.gas : Nat), .slice wa x.logs.length wc]) ⟨_, rfl, hlw⟩
      have cN := fun w => Number_any i (by omega) w
      have cT := fun w => Text_any (bsS (num i)) w
      have cE := fun w => Encode_any (.text (num i)) (by show 0 < 12; decide) (by have := text_le (num i); have := num_len i; omega) (.agg #[.bool false, .string (bsS (num i)), .slice none 0 0]) w (by rw [itV])
      have hkb : enc (.text (num i)) = keyB i := rfl
      rw [hkb] at cE
      have hbl := lt_of_cell c0
      have hzE := bsS_size (enc x.item)
      clear hlw hkb
      refine wp_hide fun QQ hQQ => ?_
      rcases rcRes_cases x with ⟨hr, h1, hres⟩ | hres | hres | ⟨h1, hres⟩
      · rw [hres] at cA
        have h1i : ((enc x.item).length : Int) ≤ 1000 := by omega
        have hao := row_lt hrow
        obtain ⟨va, vc, rfl, _, _⟩ := row_form hrow
        have hzr := hbel.size
        clear hres
        go_wp2_with (first | (go_at_call 11; (with_reducible refine cA.mono ?_); rintro e w3 ⟨rfl, hb3⟩; have hz3 := hb3.size) | (go_at_call 14; (with_reducible refine (cN _).mono ?_); rintro e w4 ⟨rfl, hb4⟩; have hz4 := hb4.size) | (go_at_call 13; (with_reducible refine (cT _).mono ?_); rintro e w5 ⟨rfl, hb5⟩; have hz5 := hb5.size) | (go_at_call 12; (with_reducible refine (cE _).mono ?_); rintro e w6 ⟨rfl, hb6⟩; have hz6 := hb6.size; have hb36 : Below wr.heap.size wr w6 := (((hb3.trans (hb4.mono hz3)).trans (hb5.mono (by omega))).trans (hb6.mono (by omega))); have hrow6 := (row_same hrow (fun g _ hc => hb36.block g hc.lt)).alloc (.cells #[.string (bsS (keyB i)), .string (bsS (enc x.item))] 36); have hnew : ∀ j u, [Value.string (bsS (keyB i)), Value.string (bsS (enc x.item))][j]? = some u → (w6.alloc (.cells #[.string (bsS (keyB i)), .string (bsS (enc x.item))] 36)).cell? ((⟨w6.heap.size, 0, none⟩ : Addr).add j) = some u := (fun j u hj => by rw [addr_add, Lib.cell_of_heap (heap_new rfl), Nat.zero_add]; simpa using hj)) | (at_builtin; refine wpList_append_own_at _ rfl _ _ 25 rfl w2.heap.size 36 i0 (.agg #[.string ⟨#[]⟩, .string ⟨#[]⟩]) 2 32 Tryz.underlying25 hi hz0 hz1 hz2 rfl (by decide) _ _ _ rfl hrow6 ⟨w6.heap.size, 0, none⟩ 1 1 [Value.string (bsS (keyB i)), Value.string (bsS (enc x.item))] rfl rfl hnew (by simp [Value.oneCell']) (by unfold maxLen; omega) (by omega) (by simp; omega) ?_; intro o7 w7 hown7 hgrow7 _ hat7; obtain ⟨a7, c7, rfl, _, _⟩ := row_form hown7))
        have hg7 := hgrow7.size
        rw [World.size_alloc] at hg7
        have B7 : Below w2.heap.size w2 w7 := ((hbel.trans (hb36.mono (by omega))).alloc (by omega) _).trans ⟨hgrow7.os, hgrow7.tape, hgrow7.output, by rw [World.size_alloc]; exact hg7, fun g hg => hgrow7.block g (by rw [World.size_alloc]; omega) (fun e => by have := hao g e.symm; omega)⟩
        have eZ : Z.take (i + 1) = Z.take i ++ [x] := by rw [List.take_succ_eq_append_getElem hlt, (List.getElem?_eq_some_iff.1 hZi).2]
        have e7 : lfC (rcs (Z.take (i + 1))) = lfC (rcs (Z.take i)) ++ [.string (bsS (keyB i)), .string (bsS (enc x.item))] := by
          rw [eZ, rcs_snoc, lfC_snoc2, List.length_take, Nat.min_eq_left hil]
        rw [← e7] at hown7
        have hr7 : ∀ y ∈ Z.take (i + 1), y.right ∧ (enc y.item).length ≤ 1000 := fun y hy => by
          rw [eZ] at hy
          rcases List.mem_append.1 hy with h | h
          · exact hrt y h
          · rw [List.mem_singleton.1 h]
            exact ⟨hr, h1⟩
        clear e7 eZ hnew hrow6 hgrow7 hat7 hao hrow
        go_wp2
        refine hQQ.out _ _ _ ?_
        simp only [Exit.then, Exit.inBlock]
        go_roundw
        case rel => exact ⟨i + 1, by omega, by go_num, hr7, hown7, B7⟩
        case measure => simp [intOf]; omega
      · skip
        rw [hres] at cA
        clear hres
        go_wp2_with (first | (go_at_call 11; (with_reducible refine cA.mono ?_); rintro e w3 ⟨rfl, hb3⟩; have hz3 := hb3.size) | (go_at_call 14; (with_reducible refine (cN _).mono ?_); rintro e w4 ⟨rfl, hb4⟩; have hz4 := hb4.size) | (go_at_call 13; (with_reducible refine (cT _).mono ?_); rintro e w5 ⟨rfl, hb5⟩; have hz5 := hb5.size) | (go_at_call 12; (with_reducible refine (cE _).mono ?_); rintro e w6 ⟨rfl, hb6⟩; have hz6 := hb6.size; have hb36 : Below wr.heap.size wr w6 := (((hb3.trans (hb4.mono hz3)).trans (hb5.mono (by omega))).trans (hb6.mono (by omega)))))
        go_wp2
        refine hQQ.out _ _ _ ?_
        simp only [Exit.then, Exit.inBlock]
        exact bodyPost_ret (v := .bool true) (by simp only [results, Tryz.results4]; go_simp; try rfl) rfl ⟨rfl, hbW.trans (hb36.mono hbW.size)⟩
      · skip
        rw [hres] at cA
        clear hres
        go_wp2_with (first | (go_at_call 11; (with_reducible refine cA.mono ?_); rintro e w3 ⟨rfl, hb3⟩; have hz3 := hb3.size) | (go_at_call 14; (with_reducible refine (cN _).mono ?_); rintro e w4 ⟨rfl, hb4⟩; have hz4 := hb4.size) | (go_at_call 13; (with_reducible refine (cT _).mono ?_); rintro e w5 ⟨rfl, hb5⟩; have hz5 := hb5.size) | (go_at_call 12; (with_reducible refine (cE _).mono ?_); rintro e w6 ⟨rfl, hb6⟩; have hz6 := hb6.size; have hb36 : Below wr.heap.size wr w6 := (((hb3.trans (hb4.mono hz3)).trans (hb5.mono (by omega))).trans (hb6.mono (by omega)))))
        go_wp2
        refine hQQ.out _ _ _ ?_
        simp only [Exit.then, Exit.inBlock]
        exact bodyPost_ret (v := .bool true) (by simp only [results, Tryz.results4]; go_simp; try rfl) rfl ⟨rfl, hbW.trans (hb36.mono hbW.size)⟩
      · have h1i : (1000 : Int) < ((enc x.item).length : Int) := by omega
        rw [hres] at cA
        clear hres
        go_wp2_with (first | (go_at_call 11; (with_reducible refine cA.mono ?_); rintro e w3 ⟨rfl, hb3⟩; have hz3 := hb3.size) | (go_at_call 14; (with_reducible refine (cN _).mono ?_); rintro e w4 ⟨rfl, hb4⟩; have hz4 := hb4.size) | (go_at_call 13; (with_reducible refine (cT _).mono ?_); rintro e w5 ⟨rfl, hb5⟩; have hz5 := hb5.size) | (go_at_call 12; (with_reducible refine (cE _).mono ?_); rintro e w6 ⟨rfl, hb6⟩; have hz6 := hb6.size; have hb36 : Below wr.heap.size wr w6 := (((hb3.trans (hb4.mono hz3)).trans (hb5.mono (by omega))).trans (hb6.mono (by omega)))))
        go_wp2
        refine hQQ.out _ _ _ ?_
        simp only [Exit.then, Exit.inBlock]
        exact bodyPost_ret (v := .bool true) (by simp only [results, Tryz.results4]; go_simp; try rfl) rfl ⟨rfl, hbW.trans (hb36.mono hbW.size)⟩
    · obtain rfl : i = Z.length := by omega
      rw [List.take_length] at hrt hrow
      obtain ⟨va, vc, rfl, _, _⟩ := row_form hrow
      have hZ20 : Z.length ≤ 20 := by omega
      have hbW := hb2.trans (hbel.mono hzw)
      have hrt1 : ∀ y ∈ Z, (enc y.item).length ≤ 1000 := fun y hy => (hrt y hy).2
      have hpl := rcs_len Z
      have hok := rcs_ok hZ20 hrt1
      have hlv : lvF (fun _ => True) wr (.slice va Z.length vc) (rcs Z) := lvF_own2 (by rw [hpl]; exact hrow) (fun _ _ => trivial)
      have hcase : ((Z.length : Int) < (L.length : Int) ∧ ¬ (Z.length : Int) < 20) ∨ ¬ (Z.length : Int) < (L.length : Int) := by omega
      by_cases h0 : ix < 0
      · clear hrow hlv hok hrt hrt1 hG hN hE hlc
        rcases hcase with ⟨f1, f2⟩ | f1
        · skip
          go_wp2
          refine bodyPost_ret (by simp only [results, Tryz.results4]; go_simp; try rfl) rfl ⟨rfl, hbW⟩
        · skip
          go_wp2
          refine bodyPost_ret (by simp only [results, Tryz.results4]; go_simp; try rfl) rfl ⟨rfl, hbW⟩
      by_cases h1 : (Z.length : Int) ≤ ix
      · clear hrow hlv hok hrt hrt1 hG hN hE hlc
        rcases hcase with ⟨f1, f2⟩ | f1
        · skip
          go_wp2
          refine bodyPost_ret (by simp only [results, Tryz.results4]; go_simp; try rfl) rfl ⟨rfl, hbW⟩
        · skip
          go_wp2
          refine bodyPost_ret (by simp only [results, Tryz.results4]; go_simp; try rfl) rfl ⟨rfl, hbW⟩
      obtain ⟨m, rfl⟩ : ∃ m : Nat, ix = (m : Int) := ⟨ix.toNat, by omega⟩
      have hmn : m < Z.length := by omega
      obtain ⟨x, hxZ⟩ : ∃ x, Z[m]? = some x := ⟨_, List.getElem?_eq_getElem hmn⟩
      have hxL : L[m]? = some x := by
        rw [hZ, List.getElem?_take, if_pos (by omega)] at hxZ
        exact hxZ
      have hxm := List.mem_of_getElem? hxZ
      have hP : (rcs Z)[m]? = some (keyB m, enc x.item) := by rw [rcs_get, hxZ, Option.map_some]
      have hne : rcs Z ≠ [] := fun e => by rw [e] at hP; cases hP
      have hem : (enc x.item).isEmpty = false := by
        cases he : enc x.item with
        | nil => exact absurd he (enc_ne _)
        | cons _ _ => rfl
      have c1 := fun w (hb : Below wr.heap.size wr w) => proven_any 1 (.slice va Z.length vc) (rcs Z) (keyB m) w hok hne (key_len m (by omega)) (hlv.below hb) (hT.below (hbW.trans (hb.mono hbW.size)) h3) (by have := hb.size; have := hbW.size; omega)
      rw [rcs_val hZ20 hrt1 hxZ, hem] at c1
      have cF := fun w => ReceiptFrom_any x (hrt x hxm).1 (hG x (List.mem_of_getElem? hxL)) (by have := (hrt x hxm).2; omega) w
      obtain ⟨bl, o, rfl, hrc⟩ := hlc m x hxL
      obtain ⟨pb, po, rfl, hcell⟩ := lvF.at (by rw [← hpl] at hlv; exact hlv) (by omega)
      have k0 := (hcell m _ hP).1
      have hmi : (m : Int) < (Z.length : Int) := by omega
      have hmi0 : (0 : Int) ≤ (m : Int) := by omega
      have hml : m < L.length := (List.getElem?_eq_some_iff.1 hxL).1
      have hmL : (m : Int) < (L.length : Int) := by omega
      have h1n : ¬ Z.length ≤ m := by omega
      have c1h := Lib.hid c1
      have hrch := Lib.hid hrc
      have hbl := lt_of_cell hrc.1
      clear c1 hrc hcell hlv hok hrow hrt hrt1 hG hN hE hlc hne hem hP h0 h1 hxZ hxL hxm hZl hZ hpl
      rcases hcase with ⟨f1, f2⟩ | f1
      · skip
        go_wp2_with (first | (go_at_call 9; with_reducible refine (c1h.out wr (Below.refl _ _)).mono ?_; rintro e w4 ⟨rfl, hb4⟩) | (go_at_call 15; (with_reducible refine (cF _).mono ?_); rintro e w5 ⟨v, rfl, ⟨lv5, rfl, hl5⟩, hb5⟩; obtain ⟨ra, rc, rfl, _⟩ := id hl5))
        have z4 := hb4.size
        have z5 := hb5.size
        have n6 := heap_new (w := w5) (o := .cells #[.bool x.good, .int .u64 (x.gas : Nat), .slice ra x.logs.length rc] 47) rfl
        have z6 : (w5.alloc (.cells #[.bool x.good, .int .u64 (x.gas : Nat), .slice ra x.logs.length rc] 47)).heap.size = w5.heap.size + 1 := World.size_alloc _ _
        have b56 : Below w5.heap.size w5 (w5.alloc (.cells #[.bool x.good, .int .u64 (x.gas : Nat), .slice ra x.logs.length rc] 47)) := (Below.refl _ w5).alloc (Nat.le_refl _) _
        have hl6 := hl5.below b56
        generalize w5.alloc (.cells #[.bool x.good, .int .u64 (x.gas : Nat), .slice ra x.logs.length rc] 47) = w6 at *
        have b6 : Below wr.heap.size wr w6 := (hb4.trans (hb5.mono z4)).trans (b56.mono (by omega))
        have hW6 := hbW.trans (b6.mono hbW.size)
        have h56 : w5.heap.size < w6.heap.size := by omega
        have h66 := hW6.size
        obtain ⟨y0, y1, y2⟩ := cell3 n6
        obtain ⟨d0, d1, lw, d2, hlw⟩ := hrch.out.below hW6
        obtain ⟨wa, wc, rfl, _⟩ := id hlw
        have hbl6 : bl < w6.heap.size := lt_of_cell d0
        have cS := fun w' (hb : Below w6.heap.size w6 w') => Same_any (x := x) (va := .agg #[.bool x.good, .int .u64 (x.gas : Nat), .slice ra x.logs.length rc]) (vb := .agg #[.bool x.good, .int .u64 (x.gas : Nat), .slice wa x.logs.length wc]) ⟨_, rfl, hl6.below hb⟩ ⟨_, rfl, hlw.below hb⟩
        clear hl5 hl6 hlw n6 z6 cF
        refine wp_flowU (fun k => ([1, 1, 1, 1, 1, 1, 1, 1, 1, 1, 1, 1, 1, 1, 1, 1, 1, 2, 1, 1] : List Nat).getD k 1) (fun (_ : Nat) w' => Below w6.heap.size w6 w') (fun _ => True) (0) (Below.drew (Below.refl _ _)) trivial (by kernel_rfl) (by kernel_rfl) ?_
        iterate 2 ((refine flowU_readE rfl rfl (fun K hK => ?_); apply Exists.intro; apply And.intro; (focus (intro w' hR; have e0 := (hR.cell (p := ⟨w5.heap.size, 0, none⟩) h56).trans y0; have e1 := (hR.cell (p := ⟨w5.heap.size, 1, none⟩) h56).trans y1; have e2 := (hR.cell (p := ⟨w5.heap.size, 2, none⟩) h56).trans y2; have e3 := (hR.cell (p := ⟨bl, o + m * 3, none⟩) hbl6).trans d0; have e4 := (hR.cell (p := ⟨bl, o + m * 3 + 1, none⟩) hbl6).trans d1; have e5 := (hR.cell (p := ⟨bl, o + m * 3 + 2, none⟩) hbl6).trans d2; clear hR; go_simp; (try go_bits); exact rfl)); go_simp; (try go_bits); refine hK _ ?_; clear hK K))
        first | (refine flowU_skip rfl (fun K hK => ?_); go_simp; (try go_bits); refine hK _ ?_; clear hK K) | (refine flowU_readE rfl rfl (fun K hK => ?_); apply Exists.intro; apply And.intro; (focus (intro w' hR; have e0 := (hR.cell (p := ⟨w5.heap.size, 0, none⟩) h56).trans y0; have e1 := (hR.cell (p := ⟨w5.heap.size, 1, none⟩) h56).trans y1; have e2 := (hR.cell (p := ⟨w5.heap.size, 2, none⟩) h56).trans y2; have e3 := (hR.cell (p := ⟨bl, o + m * 3, none⟩) hbl6).trans d0; have e4 := (hR.cell (p := ⟨bl, o + m * 3 + 1, none⟩) hbl6).trans d1; have e5 := (hR.cell (p := ⟨bl, o + m * 3 + 2, none⟩) hbl6).trans d2; clear hR; go_simp; (try go_bits); exact rfl)); go_simp; (try go_bits); refine hK _ ?_; clear hK K)
        iterate 2 ((refine flowU_readE rfl rfl (fun K hK => ?_); apply Exists.intro; apply And.intro; (focus (intro w' hR; have e0 := (hR.cell (p := ⟨w5.heap.size, 0, none⟩) h56).trans y0; have e1 := (hR.cell (p := ⟨w5.heap.size, 1, none⟩) h56).trans y1; have e2 := (hR.cell (p := ⟨w5.heap.size, 2, none⟩) h56).trans y2; have e3 := (hR.cell (p := ⟨bl, o + m * 3, none⟩) hbl6).trans d0; have e4 := (hR.cell (p := ⟨bl, o + m * 3 + 1, none⟩) hbl6).trans d1; have e5 := (hR.cell (p := ⟨bl, o + m * 3 + 2, none⟩) hbl6).trans d2; clear hR; go_simp; (try go_bits); exact rfl)); go_simp; (try go_bits); refine hK _ ?_; clear hK K))
        first | (refine flowU_skip rfl (fun K hK => ?_); go_simp; (try go_bits); refine hK _ ?_; clear hK K) | (refine flowU_readE rfl rfl (fun K hK => ?_); apply Exists.intro; apply And.intro; (focus (intro w' hR; have e0 := (hR.cell (p := ⟨w5.heap.size, 0, none⟩) h56).trans y0; have e1 := (hR.cell (p := ⟨w5.heap.size, 1, none⟩) h56).trans y1; have e2 := (hR.cell (p := ⟨w5.heap.size, 2, none⟩) h56).trans y2; have e3 := (hR.cell (p := ⟨bl, o + m * 3, none⟩) hbl6).trans d0; have e4 := (hR.cell (p := ⟨bl, o + m * 3 + 1, none⟩) hbl6).trans d1; have e5 := (hR.cell (p := ⟨bl, o + m * 3 + 2, none⟩) hbl6).trans d2; clear hR; go_simp; (try go_bits); exact rfl)); go_simp; (try go_bits); refine hK _ ?_; clear hK K)
        iterate 2 ((refine flowU_readE rfl rfl (fun K hK => ?_); apply Exists.intro; apply And.intro; (focus (intro w' hR; have e0 := (hR.cell (p := ⟨w5.heap.size, 0, none⟩) h56).trans y0; have e1 := (hR.cell (p := ⟨w5.heap.size, 1, none⟩) h56).trans y1; have e2 := (hR.cell (p := ⟨w5.heap.size, 2, none⟩) h56).trans y2; have e3 := (hR.cell (p := ⟨bl, o + m * 3, none⟩) hbl6).trans d0; have e4 := (hR.cell (p := ⟨bl, o + m * 3 + 1, none⟩) hbl6).trans d1; have e5 := (hR.cell (p := ⟨bl, o + m * 3 + 2, none⟩) hbl6).trans d2; clear hR; go_simp; (try go_bits); exact rfl)); go_simp; (try go_bits); refine hK _ ?_; clear hK K))
        iterate 2 (first | (refine flowU_skip rfl (fun K hK => ?_); go_simp; (try go_bits); refine hK _ ?_; clear hK K) | (refine flowU_readE rfl rfl (fun K hK => ?_); apply Exists.intro; apply And.intro; (focus (intro w' hR; have e0 := (hR.cell (p := ⟨w5.heap.size, 0, none⟩) h56).trans y0; have e1 := (hR.cell (p := ⟨w5.heap.size, 1, none⟩) h56).trans y1; have e2 := (hR.cell (p := ⟨w5.heap.size, 2, none⟩) h56).trans y2; have e3 := (hR.cell (p := ⟨bl, o + m * 3, none⟩) hbl6).trans d0; have e4 := (hR.cell (p := ⟨bl, o + m * 3 + 1, none⟩) hbl6).trans d1; have e5 := (hR.cell (p := ⟨bl, o + m * 3 + 2, none⟩) hbl6).trans d2; clear hR; go_simp; (try go_bits); exact rfl)); go_simp; (try go_bits); refine hK _ ?_; clear hK K))
        iterate 2 ((refine flowU_readE rfl rfl (fun K hK => ?_); apply Exists.intro; apply And.intro; (focus (intro w' hR; have e0 := (hR.cell (p := ⟨w5.heap.size, 0, none⟩) h56).trans y0; have e1 := (hR.cell (p := ⟨w5.heap.size, 1, none⟩) h56).trans y1; have e2 := (hR.cell (p := ⟨w5.heap.size, 2, none⟩) h56).trans y2; have e3 := (hR.cell (p := ⟨bl, o + m * 3, none⟩) hbl6).trans d0; have e4 := (hR.cell (p := ⟨bl, o + m * 3 + 1, none⟩) hbl6).trans d1; have e5 := (hR.cell (p := ⟨bl, o + m * 3 + 2, none⟩) hbl6).trans d2; clear hR; go_simp; (try go_bits); exact rfl)); go_simp; (try go_bits); refine hK _ ?_; clear hK K))
        iterate 5 (first | (refine flowU_skip rfl (fun K hK => ?_); go_simp; (try go_bits); refine hK _ ?_; clear hK K) | (refine flowU_readE rfl rfl (fun K hK => ?_); apply Exists.intro; apply And.intro; (focus (intro w' hR; have e0 := (hR.cell (p := ⟨w5.heap.size, 0, none⟩) h56).trans y0; have e1 := (hR.cell (p := ⟨w5.heap.size, 1, none⟩) h56).trans y1; have e2 := (hR.cell (p := ⟨w5.heap.size, 2, none⟩) h56).trans y2; have e3 := (hR.cell (p := ⟨bl, o + m * 3, none⟩) hbl6).trans d0; have e4 := (hR.cell (p := ⟨bl, o + m * 3 + 1, none⟩) hbl6).trans d1; have e5 := (hR.cell (p := ⟨bl, o + m * 3 + 2, none⟩) hbl6).trans d2; clear hR; go_simp; (try go_bits); exact rfl)); go_simp; (try go_bits); refine hK _ ?_; clear hK K))
        refine flowU_step (fun v s => v = .bool true ∧ s = 0) (by decide) rfl ⟨_, _, rfl, rfl⟩ (fun w' hR => ?_) (fun _ _ _ _ _ => trivial) (fun K hK v s2 hs2 => ?_)
        focus
          have cQ := cS w' hR
          go_simp
          exact cQ.mono (by rintro e w8 ⟨rfl, hb⟩; exact ⟨_, rfl, rfl, hR.trans (hb.mono hR.size)⟩)
        obtain ⟨rfl, rfl⟩ := hs2
        (go_simp; refine hK _ _ ?_; clear hK K)
        iterate 2 ((refine flowU_readE rfl rfl (fun K hK => ?_); apply Exists.intro; apply And.intro; (focus (intro w' hR; have e0 := (hR.cell (p := ⟨w5.heap.size, 0, none⟩) h56).trans y0; have e1 := (hR.cell (p := ⟨w5.heap.size, 1, none⟩) h56).trans y1; have e2 := (hR.cell (p := ⟨w5.heap.size, 2, none⟩) h56).trans y2; have e3 := (hR.cell (p := ⟨bl, o + m * 3, none⟩) hbl6).trans d0; have e4 := (hR.cell (p := ⟨bl, o + m * 3 + 1, none⟩) hbl6).trans d1; have e5 := (hR.cell (p := ⟨bl, o + m * 3 + 2, none⟩) hbl6).trans d2; clear hR; go_simp; (try go_bits); exact rfl)); go_simp; (try go_bits); refine hK _ ?_; clear hK K))
        refine flowU_nil ?_
        intro w7 hR7
        have b7 := hW6.trans (hR7.mono hW6.size)
        clear hR7
        go_wp2
        refine bodyPost_ret (by simp only [results, Tryz.results4]; go_simp; try rfl) rfl ⟨rfl, b7⟩
      · skip
        go_wp2_with (first | (go_at_call 9; with_reducible refine (c1h.out wr (Below.refl _ _)).mono ?_; rintro e w4 ⟨rfl, hb4⟩) | (go_at_call 15; (with_reducible refine (cF _).mono ?_); rintro e w5 ⟨v, rfl, ⟨lv5, rfl, hl5⟩, hb5⟩; obtain ⟨ra, rc, rfl, _⟩ := id hl5))
        have z4 := hb4.size
        have z5 := hb5.size
        have n6 := heap_new (w := w5) (o := .cells #[.bool x.good, .int .u64 (x.gas : Nat), .slice ra x.logs.length rc] 47) rfl
        have z6 : (w5.alloc (.cells #[.bool x.good, .int .u64 (x.gas : Nat), .slice ra x.logs.length rc] 47)).heap.size = w5.heap.size + 1 := World.size_alloc _ _
        have b56 : Below w5.heap.size w5 (w5.alloc (.cells #[.bool x.good, .int .u64 (x.gas : Nat), .slice ra x.logs.length rc] 47)) := (Below.refl _ w5).alloc (Nat.le_refl _) _
        have hl6 := hl5.below b56
        generalize w5.alloc (.cells #[.bool x.good, .int .u64 (x.gas : Nat), .slice ra x.logs.length rc] 47) = w6 at *
        have b6 : Below wr.heap.size wr w6 := (hb4.trans (hb5.mono z4)).trans (b56.mono (by omega))
        have hW6 := hbW.trans (b6.mono hbW.size)
        have h56 : w5.heap.size < w6.heap.size := by omega
        have h66 := hW6.size
        obtain ⟨y0, y1, y2⟩ := cell3 n6
        obtain ⟨d0, d1, lw, d2, hlw⟩ := hrch.out.below hW6
        obtain ⟨wa, wc, rfl, _⟩ := id hlw
        have hbl6 : bl < w6.heap.size := lt_of_cell d0
        have cS := fun w' (hb : Below w6.heap.size w6 w') => Same_any (x := x) (va := .agg #[.bool x.good, .int .u64 (x.gas : Nat), .slice ra x.logs.length rc]) (vb := .agg #[.bool x.good, .int .u64 (x.gas : Nat), .slice wa x.logs.length wc]) ⟨_, rfl, hl6.below hb⟩ ⟨_, rfl, hlw.below hb⟩
        clear hl5 hl6 hlw n6 z6 cF
        refine wp_flowU (fun k => ([1, 1, 1, 1, 1, 1, 1, 1, 1, 1, 1, 1, 1, 1, 1, 1, 1, 2, 1, 1] : List Nat).getD k 1) (fun (_ : Nat) w' => Below w6.heap.size w6 w') (fun _ => True) (0) (Below.drew (Below.refl _ _)) trivial (by kernel_rfl) (by kernel_rfl) ?_
        iterate 2 ((refine flowU_readE rfl rfl (fun K hK => ?_); apply Exists.intro; apply And.intro; (focus (intro w' hR; have e0 := (hR.cell (p := ⟨w5.heap.size, 0, none⟩) h56).trans y0; have e1 := (hR.cell (p := ⟨w5.heap.size, 1, none⟩) h56).trans y1; have e2 := (hR.cell (p := ⟨w5.heap.size, 2, none⟩) h56).trans y2; have e3 := (hR.cell (p := ⟨bl, o + m * 3, none⟩) hbl6).trans d0; have e4 := (hR.cell (p := ⟨bl, o + m * 3 + 1, none⟩) hbl6).trans d1; have e5 := (hR.cell (p := ⟨bl, o + m * 3 + 2, none⟩) hbl6).trans d2; clear hR; go_simp; (try go_bits); exact rfl)); go_simp; (try go_bits); refine hK _ ?_; clear hK K))
        first | (refine flowU_skip rfl (fun K hK => ?_); go_simp; (try go_bits); refine hK _ ?_; clear hK K) | (refine flowU_readE rfl rfl (fun K hK => ?_); apply Exists.intro; apply And.intro; (focus (intro w' hR; have e0 := (hR.cell (p := ⟨w5.heap.size, 0, none⟩) h56).trans y0; have e1 := (hR.cell (p := ⟨w5.heap.size, 1, none⟩) h56).trans y1; have e2 := (hR.cell (p := ⟨w5.heap.size, 2, none⟩) h56).trans y2; have e3 := (hR.cell (p := ⟨bl, o + m * 3, none⟩) hbl6).trans d0; have e4 := (hR.cell (p := ⟨bl, o + m * 3 + 1, none⟩) hbl6).trans d1; have e5 := (hR.cell (p := ⟨bl, o + m * 3 + 2, none⟩) hbl6).trans d2; clear hR; go_simp; (try go_bits); exact rfl)); go_simp; (try go_bits); refine hK _ ?_; clear hK K)
        iterate 2 ((refine flowU_readE rfl rfl (fun K hK => ?_); apply Exists.intro; apply And.intro; (focus (intro w' hR; have e0 := (hR.cell (p := ⟨w5.heap.size, 0, none⟩) h56).trans y0; have e1 := (hR.cell (p := ⟨w5.heap.size, 1, none⟩) h56).trans y1; have e2 := (hR.cell (p := ⟨w5.heap.size, 2, none⟩) h56).trans y2; have e3 := (hR.cell (p := ⟨bl, o + m * 3, none⟩) hbl6).trans d0; have e4 := (hR.cell (p := ⟨bl, o + m * 3 + 1, none⟩) hbl6).trans d1; have e5 := (hR.cell (p := ⟨bl, o + m * 3 + 2, none⟩) hbl6).trans d2; clear hR; go_simp; (try go_bits); exact rfl)); go_simp; (try go_bits); refine hK _ ?_; clear hK K))
        first | (refine flowU_skip rfl (fun K hK => ?_); go_simp; (try go_bits); refine hK _ ?_; clear hK K) | (refine flowU_readE rfl rfl (fun K hK => ?_); apply Exists.intro; apply And.intro; (focus (intro w' hR; have e0 := (hR.cell (p := ⟨w5.heap.size, 0, none⟩) h56).trans y0; have e1 := (hR.cell (p := ⟨w5.heap.size, 1, none⟩) h56).trans y1; have e2 := (hR.cell (p := ⟨w5.heap.size, 2, none⟩) h56).trans y2; have e3 := (hR.cell (p := ⟨bl, o + m * 3, none⟩) hbl6).trans d0; have e4 := (hR.cell (p := ⟨bl, o + m * 3 + 1, none⟩) hbl6).trans d1; have e5 := (hR.cell (p := ⟨bl, o + m * 3 + 2, none⟩) hbl6).trans d2; clear hR; go_simp; (try go_bits); exact rfl)); go_simp; (try go_bits); refine hK _ ?_; clear hK K)
        iterate 2 ((refine flowU_readE rfl rfl (fun K hK => ?_); apply Exists.intro; apply And.intro; (focus (intro w' hR; have e0 := (hR.cell (p := ⟨w5.heap.size, 0, none⟩) h56).trans y0; have e1 := (hR.cell (p := ⟨w5.heap.size, 1, none⟩) h56).trans y1; have e2 := (hR.cell (p := ⟨w5.heap.size, 2, none⟩) h56).trans y2; have e3 := (hR.cell (p := ⟨bl, o + m * 3, none⟩) hbl6).trans d0; have e4 := (hR.cell (p := ⟨bl, o + m * 3 + 1, none⟩) hbl6).trans d1; have e5 := (hR.cell (p := ⟨bl, o + m * 3 + 2, none⟩) hbl6).trans d2; clear hR; go_simp; (try go_bits); exact rfl)); go_simp; (try go_bits); refine hK _ ?_; clear hK K))
        iterate 2 (first | (refine flowU_skip rfl (fun K hK => ?_); go_simp; (try go_bits); refine hK _ ?_; clear hK K) | (refine flowU_readE rfl rfl (fun K hK => ?_); apply Exists.intro; apply And.intro; (focus (intro w' hR; have e0 := (hR.cell (p := ⟨w5.heap.size, 0, none⟩) h56).trans y0; have e1 := (hR.cell (p := ⟨w5.heap.size, 1, none⟩) h56).trans y1; have e2 := (hR.cell (p := ⟨w5.heap.size, 2, none⟩) h56).trans y2; have e3 := (hR.cell (p := ⟨bl, o + m * 3, none⟩) hbl6).trans d0; have e4 := (hR.cell (p := ⟨bl, o + m * 3 + 1, none⟩) hbl6).trans d1; have e5 := (hR.cell (p := ⟨bl, o + m * 3 + 2, none⟩) hbl6).trans d2; clear hR; go_simp; (try go_bits); exact rfl)); go_simp; (try go_bits); refine hK _ ?_; clear hK K))
        iterate 2 ((refine flowU_readE rfl rfl (fun K hK => ?_); apply Exists.intro; apply And.intro; (focus (intro w' hR; have e0 := (hR.cell (p := ⟨w5.heap.size, 0, none⟩) h56).trans y0; have e1 := (hR.cell (p := ⟨w5.heap.size, 1, none⟩) h56).trans y1; have e2 := (hR.cell (p := ⟨w5.heap.size, 2, none⟩) h56).trans y2; have e3 := (hR.cell (p := ⟨bl, o + m * 3, none⟩) hbl6).trans d0; have e4 := (hR.cell (p := ⟨bl, o + m * 3 + 1, none⟩) hbl6).trans d1; have e5 := (hR.cell (p := ⟨bl, o + m * 3 + 2, none⟩) hbl6).trans d2; clear hR; go_simp; (try go_bits); exact rfl)); go_simp; (try go_bits); refine hK _ ?_; clear hK K))
        iterate 5 (first | (refine flowU_skip rfl (fun K hK => ?_); go_simp; (try go_bits); refine hK _ ?_; clear hK K) | (refine flowU_readE rfl rfl (fun K hK => ?_); apply Exists.intro; apply And.intro; (focus (intro w' hR; have e0 := (hR.cell (p := ⟨w5.heap.size, 0, none⟩) h56).trans y0; have e1 := (hR.cell (p := ⟨w5.heap.size, 1, none⟩) h56).trans y1; have e2 := (hR.cell (p := ⟨w5.heap.size, 2, none⟩) h56).trans y2; have e3 := (hR.cell (p := ⟨bl, o + m * 3, none⟩) hbl6).trans d0; have e4 := (hR.cell (p := ⟨bl, o + m * 3 + 1, none⟩) hbl6).trans d1; have e5 := (hR.cell (p := ⟨bl, o + m * 3 + 2, none⟩) hbl6).trans d2; clear hR; go_simp; (try go_bits); exact rfl)); go_simp; (try go_bits); refine hK _ ?_; clear hK K))
        refine flowU_step (fun v s => v = .bool true ∧ s = 0) (by decide) rfl ⟨_, _, rfl, rfl⟩ (fun w' hR => ?_) (fun _ _ _ _ _ => trivial) (fun K hK v s2 hs2 => ?_)
        focus
          have cQ := cS w' hR
          go_simp
          exact cQ.mono (by rintro e w8 ⟨rfl, hb⟩; exact ⟨_, rfl, rfl, hR.trans (hb.mono hR.size)⟩)
        obtain ⟨rfl, rfl⟩ := hs2
        (go_simp; refine hK _ _ ?_; clear hK K)
        iterate 2 ((refine flowU_readE rfl rfl (fun K hK => ?_); apply Exists.intro; apply And.intro; (focus (intro w' hR; have e0 := (hR.cell (p := ⟨w5.heap.size, 0, none⟩) h56).trans y0; have e1 := (hR.cell (p := ⟨w5.heap.size, 1, none⟩) h56).trans y1; have e2 := (hR.cell (p := ⟨w5.heap.size, 2, none⟩) h56).trans y2; have e3 := (hR.cell (p := ⟨bl, o + m * 3, none⟩) hbl6).trans d0; have e4 := (hR.cell (p := ⟨bl, o + m * 3 + 1, none⟩) hbl6).trans d1; have e5 := (hR.cell (p := ⟨bl, o + m * 3 + 2, none⟩) hbl6).trans d2; clear hR; go_simp; (try go_bits); exact rfl)); go_simp; (try go_bits); refine hK _ ?_; clear hK K))
        refine flowU_nil ?_
        intro w7 hR7
        have b7 := hW6.trans (hR7.mono hW6.size)
        clear hR7
        go_wp2
        refine bodyPost_ret (by simp only [results, Tryz.results4]; go_simp; try rfl) rfl ⟨rfl, b7⟩
end Go.Proofs.YtijidnhaijdfaaaGreatDoor
