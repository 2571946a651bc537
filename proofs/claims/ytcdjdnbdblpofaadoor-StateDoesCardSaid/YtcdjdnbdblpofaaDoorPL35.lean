/-
  Texts of one proof, one behind the other. Conditions: each text's own line says them.
-/
import Derived.Test.YtcdjdnbdblpofaaDoorPL25
import Derived.Test.YtcdjdnbdblpofaaDoorPL33
import Derived.Test.YtcdjdnbdblpofaaDoorPL34

/- All balances together stay the same. Conditions: what was moved was moved between known accounts. -/
namespace Go.Proofs.YtcdjdnbdblpofaaDoor
open Go.RowKit Go.Maps
set_option linter.unusedSimpArgs false
set_option linter.unusedVariables false

/-- None of the first i has this address. -/
def fstF (L : List Kw) (a : ByteArray) (i : Nat) : Bool := (L.take i).all fun K => !decide (K.ad = a)
theorem fstF_zero (L : List Kw) (a : ByteArray) : fstF L a 0 = true := rfl
theorem fstF_succ {L : List Kw} {a : ByteArray} {i : Nat} {K : Kw} (h : L[i]? = some K) : fstF L a (i + 1) = (fstF L a i && !decide (K.ad = a)) := by
  have hi := (List.getElem?_eq_some_iff.1 h).1
  unfold fstF
  rw [List.take_succ_eq_append_getElem hi, (List.getElem?_eq_some_iff.1 h).2, List.all_append]
  simp
/-- All balances together of the first i, each address once. -/
def suF (L : List Kw) (g : ByteArray → Nat) : Nat → Nat
  | 0 => 0
  | i + 1 => match L[i]? with
    | some K => if fstF L K.ad i then addN (suF L g i) (g K.ad) else suF L g i
    | none => suF L g i
theorem suF_succ {L : List Kw} {g : ByteArray → Nat} {i : Nat} {K : Kw} (h : L[i]? = some K) : suF L g (i + 1) = if fstF L K.ad i then addN (suF L g i) (g K.ad) else suF L g i := by
  show (match L[i]? with | some K => _ | none => _) = _
  rw [h]
theorem suF_lt (L : List Kw) (g : ByteArray → Nat) : ∀ i, suF L g i < Q256
  | 0 => Q256_pos
  | i + 1 => by
    have ih := suF_lt L g i
    unfold suF
    split
    · split
      · exact addN_lt _ _
      · exact ih
    · exact ih
theorem suF_move {L : List Kw} {f t : ByteArray} {n : Nat} (hne : f ≠ t) (hn : n < Q256) (g : ByteArray → Nat) (hg : ∀ a, g a < Q256) :
    ∀ i, i ≤ L.length → addN (suF L (mvF f t n g) i) (if fstF L f i then 0 else n) = addN (suF L g i) (if fstF L t i then 0 else n)
  | 0, _ => rfl
  | i + 1, hi => by
    have ih := suF_move (L := L) hne hn g hg i (by omega)
    obtain ⟨K, hK⟩ : ∃ K, L[i]? = some K := ⟨_, List.getElem?_eq_getElem (by omega)⟩
    have s1 := suF_lt L (mvF f t n g) i
    have s2 := suF_lt L g i
    have hga := hg K.ad
    rw [suF_succ hK, suF_succ hK, fstF_succ hK, fstF_succ hK]
    generalize suF L (mvF f t n g) i = S' at *
    generalize suF L g i = S at *
    by_cases e1 : K.ad = f
    · have e2 : ¬ K.ad = t := fun e => hne (e1.symm.trans e)
      have hm : mvF f t n g K.ad = subN (g K.ad) n := by
        unfold mvF
        dsimp only
        rw [if_neg e2, if_pos e1]
      rw [hm]
      have hne' : ¬ f = t := hne
      simp only [e1, hne', decide_true, decide_false, Bool.not_true, Bool.not_false, Bool.and_false, Bool.and_true, Bool.false_eq_true, if_false]
      rw [e1] at hga
      generalize g f = x at *
      cases h : fstF L f i
      · simp only [h, Bool.false_eq_true, if_false] at ih ⊢
        exact ih
      · simp only [h, if_true] at ih ⊢
        generalize (if fstF L t i = true then 0 else n) = y at *
        unfold addN subN Q256 at *
        omega
    · by_cases e2 : K.ad = t
      · have hm : mvF f t n g K.ad = addN (g K.ad) n := by
          unfold mvF
          dsimp only
          rw [if_pos e2, if_neg e1]
        rw [hm]
        simp only [e1, e2, decide_true, decide_false, Bool.not_true, Bool.not_false, Bool.and_false, Bool.and_true, Bool.false_eq_true, if_false]
        rw [e2] at hga
        have hne' : ¬ t = f := fun e => hne e.symm
        simp only [hne', decide_false, Bool.not_false, Bool.and_true]
        generalize g t = x at *
        cases h : fstF L t i
        · simp only [h, Bool.false_eq_true, if_false] at ih ⊢
          exact ih
        · simp only [h, if_true] at ih ⊢
          generalize (if fstF L f i = true then 0 else n) = y at *
          unfold addN Q256 at *
          omega
      · have hm : mvF f t n g K.ad = g K.ad := by
          unfold mvF
          dsimp only
          rw [if_neg e2, if_neg e1]
        rw [hm]
        simp only [e1, e2, decide_false, Bool.not_false, Bool.and_true]
        generalize g K.ad = x at *
        split
        · generalize (if fstF L f i = true then 0 else n) = y at *
          generalize (if fstF L t i = true then 0 else n) = z at *
          unfold addN Q256 at *
          omega
        · exact ih
theorem fstF_known {L : List Kw} {a : ByteArray} {K : Kw} (h : kfind L a = some K) : fstF L a L.length = false := by
  unfold fstF
  rw [List.take_length, List.all_eq_false]
  refine ⟨K, List.mem_of_find?_eq_some h, ?_⟩
  have := List.find?_some h
  simpa using this
/-- All balances together are what they were at first. -/
theorem suF_same {L : List Kw} (hL : ∀ K ∈ L, K.ba < Q256) : ∀ R : List Chg, Rok L R → suF L (baF L R) L.length = suF L (ba0 L) L.length
  | [], _ => rfl
  | c :: R, h => by
    have ih := suF_same hL R h.2.2.2
    rw [← ih]
    cases c with
    | move f t n =>
      obtain ⟨hok, ⟨⟨Kf, hf⟩, ⟨Kt, ht⟩⟩, _, _⟩ := h
      have hx := baF_lt hL R
      have e : (baF L (.move f t n :: R)) = mvF f t n (baF L R) := by funext a; rfl
      rw [e]
      by_cases hft : f = t
      · subst hft
        have : mvF f f n (baF L R) = baF L R := by
          funext a
          unfold mvF
          dsimp only
          split
          · exact add_sub (hx a) hok.2.2
          · rfl
        rw [this]
      · have h1 := suF_move hft hok.2.2 (baF L R) hx L.length (Nat.le_refl _)
        rw [fstF_known hf, fstF_known ht] at h1
        simp only [Bool.false_eq_true, if_false] at h1
        have s1 := suF_lt L (mvF f t n (baF L R)) L.length
        have s2 := suF_lt L (baF L R) L.length
        have hn : n < Q256 := hok.2.2
        generalize suF L (mvF f t n (baF L R)) L.length = x at *
        generalize suF L (baF L R) L.length = y at *
        unfold addN Q256 at *
        omega
    | save p v => rfl
    | brief p v => rfl
    | warm a => rfl
    | cell p => rfl
    | note l => rfl
theorem kfind_mem {L : List Kw} {K : Kw} (h : K ∈ L) : ∃ K', kfind L K.ad = some K' := by
  unfold kfind
  cases e : L.find? fun K' => decide (K'.ad = K.ad) with
  | some K' => exact ⟨K', rfl⟩
  | none =>
    rw [List.find?_eq_none] at e
    exact absurd (e K h) (by simp)
theorem balN_mem {L : List Kw} {R : List Chg} {K : Kw} (h : K ∈ L) : balN L R K.ad = baF L R K.ad := by
  obtain ⟨K', hk⟩ := kfind_mem h
  exact balN_some hk
end Go.Proofs.YtcdjdnbdblpofaaDoor

/- sum: all balances together, of addresses that are unlike. Conditions: the state is one. -/
namespace Go.Proofs.YtcdjdnbdblpofaaDoor
open Go.RowKit Go.Maps
attribute [local go_sem] leftBy leaves eqW guardW
set_option linter.unusedSimpArgs false
set_option linter.unusedVariables false

theorem sum_add {a b : Nat} : addN a b = (a + b) % Q256 := rfl

section
variable {W : World} {F : Nat → Prop} {b N : Nat} {L : List Kw} {R : List Chg}

set_option maxRecDepth 100000 in
set_option maxHeartbeats 16000000 in
theorem sum_L {sa : Option Addr} {sc : Nat} (h : SRep W F b N L R) (hk : knL W (.slice sa L.length sc) L) (hL : ∀ K ∈ L, K.ba < Q256) (hT : ∀ K ∈ L, okT K.ad) (hn : L.length ≤ 1000) :
    Calls Tryd.prog 26 #[ptr (b + 6), .slice sa L.length sc] W fun e w' => e = .returned (W4 (suF L (baF L R) L.length)) ∧ Below W.heap.size W w' := by
  obtain ⟨sa', sc', hv, hn1, hn2, hcell⟩ := hk
  obtain ⟨rfl, rfl⟩ : sa = sa' ∧ sc = sc' := by simpa using hv
  unfold maxLen at hn2
  have hn3 : L.length ≤ 9223372036854775807 := by omega
  have hn4 : sc ≤ 9223372036854775807 := by omega
  have HC := Lib.hid hcell
  have HT := Lib.hid hT
  have HS := Lib.hid h
  have HB := Lib.hid fun K (hK : K ∈ L) => balN_mem (R := R) hK
  have HL := Lib.hid fun a => baF_lt hL R a
  have cA : ∀ x y w, x < Q256 → y < Q256 → Calls Tryd.prog 43 #[W4 x, W4 y] w fun e w' => e = .returned (W4 (addN x y)) ∧ Below w.heap.size w w' := fun x y w hx hy => Add_any x y hx hy w
  have HA := Lib.hid cA
  clear hcell h hT hL hv cA
  unfold ptr
  go_enter Tryd.func26, Tryd.ntmps26
  go_wp2
  have b1 : Below W.heap.size W ((W.alloc (.cells #[.int .u64 0, .int .u64 0, .int .u64 0, .int .u64 0] 25)).alloc (.cells #[.int .u64 0, .int .u64 0, .int .u64 0, .int .u64 0] 25)) := ((Below.refl _ W).alloc (Nat.le_refl _) _).alloc (by simp) _
  have rb : ((W.alloc (.cells #[.int .u64 0, .int .u64 0, .int .u64 0, .int .u64 0] 25)).alloc (.cells #[.int .u64 0, .int .u64 0, .int .u64 0, .int .u64 0] 25)).heap[W.heap.size]? = _ := (Below.heap_alloc _ _ _ (by simp)).trans (heap_new rfl)
  have pb0 : ((W.alloc (.cells #[.int .u64 0, .int .u64 0, .int .u64 0, .int .u64 0] 25)).alloc (.cells #[.int .u64 0, .int .u64 0, .int .u64 0, .int .u64 0] 25)).heap[W.heap.size + 1]? = _ := heap_new (by simp)
  have z1 : W.heap.size + 2 ≤ ((W.alloc (.cells #[.int .u64 0, .int .u64 0, .int .u64 0, .int .u64 0] 25)).alloc (.cells #[.int .u64 0, .int .u64 0, .int .u64 0, .int .u64 0] 25)).heap.size := by simp
  generalize ((W.alloc (.cells #[.int .u64 0, .int .u64 0, .int .u64 0, .int .u64 0] 25)).alloc (.cells #[.int .u64 0, .int .u64 0, .int .u64 0, .int .u64 0] 25)) = W1 at *
  have pb : W1.heap[W.heap.size + 1]? = some (.cells #[.int .u64 (lb (suF L (baF L R) 0) 0 : Nat), .int .u64 (lb (suF L (baF L R) 0) 1 : Nat), .int .u64 (lb (suF L (baF L R) 0) 2 : Nat), .int .u64 (lb (suF L (baF L R) 0) 3 : Nat)] 25 (0, 0)) := by
    rw [show suF L (baF L R) 0 = 0 from rfl]
    simpa only [lb_nil, Int.natCast_zero] using pb0
  clear pb0
  go_loopw [6] (fun v wr => ∃ i : Nat, i ≤ L.length ∧ v = .int .i64 (i : Nat) ∧ Fr (fun k => k = W.heap.size + 1) W1 wr ∧ wr.heap[W.heap.size + 1]? = some (.cells #[.int .u64 (lb (suF L (baF L R) i) 0 : Nat), .int .u64 (lb (suF L (baF L R) i) 1 : Nat), .int .u64 (lb (suF L (baF L R) i) 2 : Nat), .int .u64 (lb (suF L (baF L R) i) 3 : Nat)] 25 (0, 0))) (fun v _ => L.length - (intOf v).toNat)
  case atStart => exact ⟨0, Nat.zero_le _, rfl, Fr.refl _ _, pb⟩
  case round =>
    obtain ⟨i, hi, rfl, hF, hp⟩ := hrel
    have szr := hF.size
    have hB : Below W.heap.size W wr := b1.trans (hF.toBelow (by omega) (fun k hk => by omega))
    by_cases hli : i < L.length
    · obtain ⟨K, hK⟩ : ∃ K, L[i]? = some K := ⟨_, List.getElem?_eq_getElem hli⟩
      obtain ⟨bl, o, rfl, hc⟩ := HC.out i K hK
      have hbl : bl < W.heap.size := cell_lt (hc 0 _ rfl)
      have G0 : _ = some (Value.string K.ad) := (hB.cell (p := ⟨bl, o + i * 12 + 0, none⟩) hbl).trans (hc 0 _ rfl)
      rw [Nat.add_zero] at G0
      have hKm : K ∈ L := List.mem_of_getElem? hK
      have hst := suF_succ (g := baF L R) hK
      have hbal := HB.out K hKm
      have hbt := HT.out K hKm
      have hgl := HL.out K.ad
      have hsl := suF_lt L (baF L R) i
      clear hc
      have hn5 : i ≤ 1000 := by omega
      generalize suF L (baF L R) i = x at *
      have HST := Lib.hid hst
      have HF := Lib.hid hF
      have HBr := Lib.hid hB
      clear hst hF hB
      go_wp2
      obtain ⟨wo, hwo⟩ : ∃ wo : World, wo = wr := ⟨_, rfl⟩
      go_loopw [7, 8] (fun f v w2 => ∃ j : Nat, j ≤ i ∧ v = .int .i64 (j : Nat) ∧ f = .bool (fstF L K.ad j) ∧ Fr (fun _ => False) wo w2) (fun _ v _ => i - (intOf v).toNat)
      case atStart => exact ⟨0, Nat.zero_le _, rfl, rfl, by rw [hwo]; exact Fr.refl _ _⟩
      case round =>
        subst hwo
        obtain ⟨j, hj, rfl, rfl, hF2⟩ := hrel
        have szr2 := hF2.size
        by_cases hji : j < i
        · obtain ⟨K2, hK2⟩ : ∃ K2, L[j]? = some K2 := ⟨_, List.getElem?_eq_getElem (by omega)⟩
          obtain ⟨bl2, o2, e, hc2⟩ := HC.out j K2 hK2
          obtain ⟨rfl, rfl⟩ : bl = bl2 ∧ o = o2 := by simpa using e
          have G1 : _ = some (Value.string K2.ad) := (HBr.out.cell (p := ⟨bl, o + j * 12 + 0, none⟩) hbl).trans (hc2 0 _ rfl)
          rw [Nat.add_zero] at G1
          have szo := HBr.out.size
          have hjl : j < L.length := by omega
          have g0 := hF2.cell G0 id (by omega)
          have g1 := hF2.cell G1 id (by omega)
          have hfs := fstF_succ (a := K.ad) hK2
          have HF2 := Lib.hid hF2
          clear e hc2 hK2 hF2
          generalize K2.ad = a2 at *
          cases hf : fstF L K.ad j with
          | true =>
            rw [hf, Bool.true_and] at hfs
            by_cases he : a2 = K.ad
            · have hq : (a2.toList == K.ad.toList) = true := by rw [beqS]; exact decide_eq_true he
              rw [decide_eq_true he] at hfs
              go_wp2
              refine wp_flowU (fun k => ([1, 1, 1, 1, 1, 1, 1, 1, 1, 1, 1, 1, 1, 1, 1] : List Nat).getD k 1) (fun (_ : Unit) w' => Fr (fun _ => False) wr w') (fun _ => True) (()) (Fr.drew (Fr.refl _ _)) trivial (by kernel_rfl) (by kernel_rfl) ?_
              iterate 2 ((refine flowU_readE rfl rfl (fun K hK => ?_); apply Exists.intro; apply And.intro; (focus (intro w' hR; have y0 := hR.cell g0 id (by omega); have y1 := hR.cell g1 id (by omega); clear hR; go_simp; (try go_bits); exact rfl)); go_simp; (try go_bits); refine hK _ ?_; clear hK K))
              iterate 11 (first | (refine flowU_skip rfl (fun K hK => ?_); go_simp; (try go_bits); refine hK _ ?_; clear hK K) | (refine flowU_readE rfl rfl (fun K hK => ?_); apply Exists.intro; apply And.intro; (focus (intro w' hR; have y0 := hR.cell g0 id (by omega); have y1 := hR.cell g1 id (by omega); clear hR; go_simp; (try go_bits); exact rfl)); go_simp; (try go_bits); refine hK _ ?_; clear hK K))
              iterate 2 ((refine flowU_readE rfl rfl (fun K hK => ?_); apply Exists.intro; apply And.intro; (focus (intro w' hR; have y0 := hR.cell g0 id (by omega); have y1 := hR.cell g1 id (by omega); clear hR; go_simp; (try go_bits); exact rfl)); go_simp; (try go_bits); refine hK _ ?_; clear hK K))
              refine flowU_nil ?_
              intro w3 hR
              have HF3 := Lib.hid (HF2.out.trans ⟨hR.os, hR.tape, hR.output, hR.size, hR.block⟩)
              clear hR HF2
              go_wp2
              go_roundw
              case rel => exact ⟨j + 1, by omega, by go_num, by simp [hfs], HF3.out⟩
              case measure => simp [intOf]; omega
            · have hq : (a2.toList == K.ad.toList) = false := by rw [beqS]; exact decide_eq_false he
              rw [decide_eq_false he] at hfs
              go_wp2
              refine wp_flowU (fun k => ([1, 1, 1, 1, 1, 1, 1, 1, 1, 1, 1, 1, 1, 1, 1] : List Nat).getD k 1) (fun (_ : Unit) w' => Fr (fun _ => False) wr w') (fun _ => True) (()) (Fr.drew (Fr.refl _ _)) trivial (by kernel_rfl) (by kernel_rfl) ?_
              iterate 2 ((refine flowU_readE rfl rfl (fun K hK => ?_); apply Exists.intro; apply And.intro; (focus (intro w' hR; have y0 := hR.cell g0 id (by omega); have y1 := hR.cell g1 id (by omega); clear hR; go_simp; (try go_bits); exact rfl)); go_simp; (try go_bits); refine hK _ ?_; clear hK K))
              iterate 11 (first | (refine flowU_skip rfl (fun K hK => ?_); go_simp; (try go_bits); refine hK _ ?_; clear hK K) | (refine flowU_readE rfl rfl (fun K hK => ?_); apply Exists.intro; apply And.intro; (focus (intro w' hR; have y0 := hR.cell g0 id (by omega); have y1 := hR.cell g1 id (by omega); clear hR; go_simp; (try go_bits); exact rfl)); go_simp; (try go_bits); refine hK _ ?_; clear hK K))
              iterate 2 ((refine flowU_readE rfl rfl (fun K hK => ?_); apply Exists.intro; apply And.intro; (focus (intro w' hR; have y0 := hR.cell g0 id (by omega); have y1 := hR.cell g1 id (by omega); clear hR; go_simp; (try go_bits); exact rfl)); go_simp; (try go_bits); refine hK _ ?_; clear hK K))
              refine flowU_nil ?_
              intro w3 hR
              have HF3 := Lib.hid (HF2.out.trans ⟨hR.os, hR.tape, hR.output, hR.size, hR.block⟩)
              clear hR HF2
              go_wp2
              go_roundw
              case rel => exact ⟨j + 1, by omega, by go_num, by simp [hfs], HF3.out⟩
              case measure => simp [intOf]; omega
          | false =>
            rw [hf, Bool.false_and] at hfs
            go_wp2
            refine wp_flowU (fun k => ([1, 1, 1, 1, 1, 1, 1, 1, 1, 1, 1, 1, 1, 1, 1] : List Nat).getD k 1) (fun (_ : Unit) w' => Fr (fun _ => False) wr w') (fun _ => True) (()) (Fr.drew (Fr.refl _ _)) trivial (by kernel_rfl) (by kernel_rfl) ?_
            iterate 2 ((refine flowU_readE rfl rfl (fun K hK => ?_); apply Exists.intro; apply And.intro; (focus (intro w' hR; have y0 := hR.cell g0 id (by omega); have y1 := hR.cell g1 id (by omega); clear hR; go_simp; (try go_bits); exact rfl)); go_simp; (try go_bits); refine hK _ ?_; clear hK K))
            iterate 11 (first | (refine flowU_skip rfl (fun K hK => ?_); go_simp; (try go_bits); refine hK _ ?_; clear hK K) | (refine flowU_readE rfl rfl (fun K hK => ?_); apply Exists.intro; apply And.intro; (focus (intro w' hR; have y0 := hR.cell g0 id (by omega); have y1 := hR.cell g1 id (by omega); clear hR; go_simp; (try go_bits); exact rfl)); go_simp; (try go_bits); refine hK _ ?_; clear hK K))
            iterate 2 ((refine flowU_readE rfl rfl (fun K hK => ?_); apply Exists.intro; apply And.intro; (focus (intro w' hR; have y0 := hR.cell g0 id (by omega); have y1 := hR.cell g1 id (by omega); clear hR; go_simp; (try go_bits); exact rfl)); go_simp; (try go_bits); refine hK _ ?_; clear hK K))
            refine flowU_nil ?_
            intro w3 hR
            have HF3 := Lib.hid (HF2.out.trans ⟨hR.os, hR.tape, hR.output, hR.size, hR.block⟩)
            clear hR HF2
            go_wp2
            go_roundw
            case rel => exact ⟨j + 1, by omega, by go_num, by simp [hfs], HF3.out⟩
            case measure => simp [intOf]; omega
        · obtain rfl : j = i := by omega
          have hF3 := HF.out.trans (hF2.mono (T' := fun k => k = W.heap.size + 1) fun k hk => hk.elim)
          have hp2 := (hF2.block _ (by omega) id).trans hp
          have g0 := hF2.cell G0 id (by have := HBr.out.size; omega)
          cases hf : fstF L K.ad j with
          | true =>
            have hst := HST.out
            rw [hf, if_pos rfl] at hst
            have hB3 : Below W.heap.size W wr := b1.trans (hF3.toBelow (by omega) (fun k hk => by omega))
            have cB := Balance_S (HS.out.below hB3) hbt
            rw [hbal] at cB
            have cA := HA.out x (baF L R K.ad) 
            generalize baF L R K.ad = y at *
            generalize kerr L K.ad = er at *
            have HST2 := Lib.hid hst
            clear hst HST hbal
            unfold ptr at cB
            go_wp2_with (first | (go_at_call 11; refine cB.mono ?_; rintro e wa ⟨rfl, hb_wa⟩; have za : wr.heap.size ≤ wa.heap.size := hb_wa.size; have hp3 := (hb_wa.block _ (by omega)).trans hp2; obtain ⟨p0, p1, p2, p3⟩ := cells4w hp3; have zl : W.heap.size + 1 < wa.heap.size := (by omega)) | (go_at_call 43; refine (cA _ hsl hgl).mono ?_; rintro e wc ⟨rfl, hb_wc⟩; have hp4 := (hb_wc.block _ (by simp only [World.size_alloc]; omega)).trans ((Below.heap_alloc _ _ _ (by omega)).trans hp3); obtain ⟨r0, r1, r2, r3⟩ := cells4w hp4; have rf : ∀ j, wc.frozen? ⟨W.heap.size + 1, j, none⟩ = false := fun j => (by simp [World.frozen?, hp4])))
            exact ⟨⟨j + 1, by omega, by go_num, ((((((hF3.below hb_wa).alloc _).below hb_wc).setCell (.inl rfl) _).setCell (.inl rfl) _).setCell (.inl rfl) _).setCell (.inl rfl) _, by rw [HST2.out]; exact store4 hp4 _ _ _ _⟩, by simp [intOf]; omega⟩
          | false =>
            have hst := HST.out
            rw [hf, if_neg (by simp)] at hst
            go_wp2
            exact ⟨⟨j + 1, by omega, by go_num, hF3, by rw [hst]; exact hp2⟩, by simp [intOf]; omega⟩
    · obtain rfl : i = L.length := by omega
      obtain ⟨p0, p1, p2, p3⟩ := cells4w hp
      have rb2 := (hF.block _ (by omega) (by omega)).trans rb
      obtain ⟨q0, q1, q2, q3⟩ := cells4w rb2
      have qf : ∀ j, wr.frozen? ⟨W.heap.size, j, none⟩ = false := fun j => by simp [World.frozen?, rb2]
      clear hF hp
      go_wp2
      refine bodyPost_ret (by simp only [results, Tryd.results26]; go_simp; try rfl) rfl ⟨rfl, ?_⟩
      exact (((hB.setCell (Nat.le_refl _) _).setCell (Nat.le_refl _) _).setCell (Nat.le_refl _) _).setCell (Nat.le_refl _) _
end
end Go.Proofs.YtcdjdnbdblpofaaDoor

/- A state and the document's, side by side, behind some calls. Conditions: none. -/
namespace Go.Proofs.YtcdjdnbdblpofaaDoor
open Go.RowKit Go.Maps
set_option linter.unusedSimpArgs false
set_option linter.unusedVariables false

/-- No log that was noted has topics. -/
def Rpl (R : List Chg) : Prop := ∀ c ∈ R, ∀ l, c = .note l → l.tops = [] ∧ l.tn = 0 ∧ l.tc = 0
theorem Rpl.stp {L : List Kw} {R : List Chg} (h : Rpl R) (x : Opx) (k : Int) : Rpl (stp L R x k) := by
  by_cases hk : k = 12
  · subst hk
    show Rpl (bkR R x.n)
    unfold bkR
    split
    · exact fun c hc => h c (List.mem_of_mem_drop hc)
    · exact h
  · rcases stp_new L R x hk with e | ⟨c, e⟩
    · rw [e]; exact h
    · intro d hd l hl
      rw [e] at hd
      rcases List.mem_cons.1 hd with rfl | hd
      · unfold Go.Proofs.YtcdjdnbdblpofaaDoor.stp saR' moR waR wcR bkR at e
        repeat' split at e
        all_goals first | (injection e with e1 e2; subst e1; first | (cases hl; done) | (injection hl with hl; subst hl; exact ⟨rfl, rfl, rfl⟩)) | exact absurd (congrArg List.length e) (by simp) | exact absurd ‹_› hk | skip
      · exact h d hd l hl
theorem lgF_mem : ∀ {R : List Chg} {l : Lg}, l ∈ lgF R → Chg.note l ∈ R
  | [], _, h => by cases h
  | c :: R, l, h => by
    cases c with
    | note l' =>
      rcases List.mem_append.1 (show l ∈ lgF R ++ [l'] from h) with h | h
      · exact List.mem_cons_of_mem _ (lgF_mem h)
      · rw [List.mem_singleton.1 h]; exact List.mem_cons_self ..
    | save p v => exact List.mem_cons_of_mem _ (lgF_mem (R := R) h)
    | brief p v => exact List.mem_cons_of_mem _ (lgF_mem (R := R) h)
    | move f t n => exact List.mem_cons_of_mem _ (lgF_mem (R := R) h)
    | warm a => exact List.mem_cons_of_mem _ (lgF_mem (R := R) h)
    | cell p => exact List.mem_cons_of_mem _ (lgF_mem (R := R) h)
theorem Rpl.top {R : List Chg} (h : Rpl R) (W : World) : ∀ l ∈ lgF R, topV W l := fun l hl => by
  obtain ⟨h1, h2, h3⟩ := h _ (lgF_mem hl) l rfl
  refine ⟨by rw [h1, h2]; rfl, by omega, by rw [h3]; exact Nat.zero_le _, fun j s hs => ?_⟩
  rw [h1] at hs
  cases hs

/-- Both, behind i calls. -/
structure Das (W0 w : World) (F G : Nat → Prop) (b q N : Nat) (L : List Kw) (lv : Value) (R : List Chg) (i : Nat) : Prop where
  two : Two W0 w F G b q N L lv R R
  rok : Rok L R
  len : R.length ≤ i
  bn : N ≤ 400 + 202 * i
  pl : Rpl R
section
variable {W0 w w' : World} {F G : Nat → Prop} {b q N i : Nat} {L : List Kw} {lv : Value} {R : List Chg}
theorem Das.below (h : Das W0 w F G b q N L lv R i) (hb : Below w.heap.size w w') : Das W0 w' F G b q N L lv R i := ⟨h.two.below hb, h.rok, h.len, h.bn, h.pl⟩
theorem does_D (hB0 : Bas W0 L lv) (h : Das W0 w F G b q N L lv R i) (hi : i < 100) (x : Opx) (hx : x.ok) :
    Calls Tryd.prog 27 #[ptr (b + 6), ptr q, x.v] w fun e w' => e = .returned (.bool true) ∧ ∃ F' G' N', Das W0 w' F' G' b q N' L lv (stp L R x (pkN x.ki)) (i + 1) ∧ Kp w w' F G F' G' := by
  have hl := h.len
  have hn := h.bn
  refine (does_any hB0 h.two h.rok (by omega) (by omega) x hx).mono ?_
  rintro e w' ⟨he, F', G', hT, hK⟩
  refine ⟨he, F', G', _, ⟨hT, stp_ok hx h.rok _, ?_, by omega, h.pl.stp x _⟩, hK⟩
  have := stp_len L R x (pkN x.ki)
  omega
theorem Das.init {wa w1 w2 : World} (hn : L.length ≤ 50) (hb1 : Below wa.heap.size wa w1) (hS : SRep w1 (fun k => wa.heap.size ≤ k ∧ k < w1.heap.size) wa.heap.size (2 * L.length) L []) (hb2 : Below w1.heap.size w1 w2) (hr : RRep w2 (fun k => k = w1.heap.size) w1.heap.size lv []) :
    Das wa w2 (fun k => wa.heap.size ≤ k ∧ k < w1.heap.size) (fun k => k = w1.heap.size) wa.heap.size w1.heap.size (2 * L.length) L lv [] 0 :=
  ⟨⟨hS.below hb2, hr, fun k hk => hk.1, fun k hk => by rw [hk]; exact hb1.size, fun k hk e => by omega, hb1.trans (hb2.mono hb1.size)⟩, trivial, Nat.le_refl _, by omega, fun c hc => by cases hc⟩
end
end Go.Proofs.YtcdjdnbdblpofaaDoor

/- The walk of pharoslaw19.StateDoes. Conditions: what comes in is right; the three tables stand in their blocks. -/
namespace Go.Proofs.YtcdjdnbdblpofaaDoor
open Go.RowKit Go.Maps
attribute [local go_sem] leftBy leaves eqW guardW
set_option linter.unusedSimpArgs false
set_option linter.unusedVariables false

/-- Between two rounds. -/
def dsI (W0 : World) (b q : Nat) (L : List Kw) (lv : Value) (i : Nat) (w : World) : Prop := ∃ F G N R, Das W0 w F G b q N L lv R i

set_option maxRecDepth 100000 in
set_option maxHeartbeats 32000000 in
theorem walk_does {W : World} {sa oa : Option Addr} {sc oc : Nat} {L0 : List Kw} {ops : List Opx} (hv : knL W (.slice sa L0.length sc) L0) (hok : ∀ K ∈ L0, Kok W K ∧ okT K.ad) (ho : opL W (.slice oa ops.length oc) ops) (hox : ∀ x ∈ ops, x.ok) (hW : 3 ≤ W.heap.size) (hT : KT W) :
    Calls Tryd.prog 6 #[.slice sa L0.length sc, .slice oa ops.length oc] W fun e w' => e = .returned (.bool true) ∧ Below W.heap.size W w' := by
  have hv2 := knL_take hv 50
  obtain ⟨L, hLd⟩ : ∃ L, L = L0.take 50 := ⟨_, rfl⟩
  rw [← hLd] at hv2
  have hln : L.length ≤ 50 := by rw [hLd, List.length_take]; omega
  have hokL : ∀ K ∈ L, Kok W K ∧ okT K.ad := fun K hK => hok K (List.mem_of_mem_take (hLd ▸ hK))
  have hn0 : L0.length ≤ sc ∧ sc ≤ maxLen := by
    obtain ⟨_, _, h, h1, h2, _⟩ := hv
    simp only [Value.slice.injEq] at h
    obtain ⟨-, -, rfl⟩ := h
    exact ⟨h1, h2⟩
  unfold maxLen at hn0
  obtain ⟨hn1, hn2⟩ := hn0
  have hn3 : L0.length ≤ 9223372036854775807 := by omega
  have hmin : min (L0.length : Int) 50 = (L.length : Int) := by rw [hLd, List.length_take]; omega
  have hls2 : L.length ≤ sc := by rw [hLd, List.length_take]; omega
  clear hLd hok hv
  have hl_ops : ops.length ≤ 9223372036854775807 := by
    obtain ⟨_, _, hh, h1, h2, _⟩ := ho
    simp only [Value.slice.injEq] at hh
    obtain ⟨-, -, rfl⟩ := hh
    unfold maxLen at h2
    omega
  have b0' : Below W.heap.size W W := Below.refl _ _
  go_enter Tryd.func6, Tryd.ntmps6
  go_wp2_with (go_at_call 9; refine (shown_any _).mono ?_; rintro e wa ⟨rfl, hb⟩)
  have b0 := b0'.trans (hb.mono b0'.size)
  have zb0 := b0.size
  have cN := New_any (hv2.below b0) (by omega) (fun K hK => (hokL K hK).2)
  go_wp2_with (go_at_call 10; refine cN.mono ?_; rintro e w1 ⟨rfl, hb1, hS⟩)
  have cR := New_R ((hv2.below b0).below hb1) (by omega)
  unfold ptr
  go_wp2_with (go_at_call 25; refine cR.mono ?_; rintro e w2 ⟨rfl, hb2, hRR⟩)
  have hW3 : 3 ≤ wa.heap.size := Nat.le_trans hW b0.size
  have hB0 : Bas wa L (.slice sa L.length sc) := ⟨hW3, hT.below b0 hW, fun K hK => (hokL K hK).1.below b0, hv2.below b0⟩
  have hD := Das.init (by omega) hb1 hS hb2 hRR
  have hKT := fun K hK => (hokL K hK).2
  unfold ptr
  have hI0 : dsI wa wa.heap.size w1.heap.size L (.slice sa L.length sc) 0 w2 := ⟨_, _, _, _, hD⟩
  clear hD hRR hS hb1 hb2 cN cR hv2 hb
  generalize w1.heap.size = q at *
  obtain ⟨b, hbd⟩ : ∃ b, b = wa.heap.size := ⟨_, rfl⟩
  rw [← hbd] at hI0
  rw [← hbd]
  clear hbd
  go_wp2
  go_loopw [8] (fun v wr => ∃ i : Nat, i ≤ ops.length ∧ i ≤ 100 ∧ v = .int .i64 (i : Nat) ∧ dsI wa b q L (.slice sa L.length sc) i wr) (fun v _ => ops.length - (intOf v).toNat)
  case atStart => exact ⟨0, Nat.zero_le _, Nat.zero_le _, rfl, hI0⟩
  case round =>
    obtain ⟨i, hi, hi60, rfl, F, G, N, R, hD⟩ := hrel
    have hBr : Below W.heap.size W wr := b0.trans (hD.two.bel.mono zb0)
    by_cases hl : i < ops.length
    · by_cases h60 : i < 100
      · obtain ⟨x, hx⟩ : ∃ x, ops[i]? = some x := ⟨_, List.getElem?_eq_getElem hl⟩
        have hxk := hox x (List.mem_of_getElem? hx)
        obtain ⟨gb, go, rfl, hg⟩ : ∃ gb go, oa = some ⟨gb, go, none⟩ ∧ ∀ j u, x.v.cells[j]? = some u → W.cell? ⟨gb, go + i * 12 + j, none⟩ = some u := by
          obtain ⟨a2, c2, hvv, _, _, h3⟩ := ho
          obtain ⟨bb, oo, e, h⟩ := h3 i x hx
          obtain ⟨rfl, rfl⟩ : oa = a2 ∧ oc = c2 := by simpa using hvv
          exact ⟨bb, oo, e, h⟩
        have hgl : gb < W.heap.size := cell_lt (hg 0 _ rfl)
        have hg2 := fun j u hu => (hBr.cell (p := ⟨gb, go + i * 12 + j, none⟩) hgl).trans (hg j u hu)
        have g0 : _ = some (Value.int .i64 x.ki) := hg2 0 _ rfl
        have g1 : _ = some (Value.string x.a) := hg2 1 _ rfl
        have g2 : _ = some (Value.string x.b) := hg2 2 _ rfl
        have g3 : _ = some (Value.int .u64 (lb x.ke 0 : Nat)) := hg2 3 _ rfl
        have g4 : _ = some (Value.int .u64 (lb x.ke 1 : Nat)) := hg2 4 _ rfl
        have g5 : _ = some (Value.int .u64 (lb x.ke 2 : Nat)) := hg2 5 _ rfl
        have g6 : _ = some (Value.int .u64 (lb x.ke 3 : Nat)) := hg2 6 _ rfl
        have g7 : _ = some (Value.int .u64 (lb x.va 0 : Nat)) := hg2 7 _ rfl
        have g8 : _ = some (Value.int .u64 (lb x.va 1 : Nat)) := hg2 8 _ rfl
        have g9 : _ = some (Value.int .u64 (lb x.va 2 : Nat)) := hg2 9 _ rfl
        have g10 : _ = some (Value.int .u64 (lb x.va 3 : Nat)) := hg2 10 _ rfl
        have g11 : _ = some (Value.int .i64 x.n) := hg2 11 _ rfl
        rw [Nat.add_zero] at g0
        clear hg hg2
        have cD := does_D hB0 hD (by omega) x hxk
        obtain ⟨R', hR'⟩ : ∃ R', R' = stp L R x (pkN x.ki) := ⟨_, rfl⟩
        rw [← hR'] at cD
        unfold ptr Opx.v at cD
        clear hx hxk hR'
        go_wp2_with (first | (go_at_call 27; refine cD.mono ?_; rintro e w5 ⟨rfl, F', G', N', hD', hK'⟩; have hl5 := hD'.len) | (go_at_call 17; refine (Mark_S hD'.two.s).mono ?_; rintro e w6 ⟨rfl, hb6⟩; have hD6 := hD'.below hb6) | (go_at_call 28; refine (Mark_R hD6.two.r).mono ?_; rintro e w7 ⟨rfl, hb7⟩; have hD7 := hD6.below hb7) | (go_at_call 18; refine (Logs_S hD7.two.s (by omega)).mono ?_; rintro e w8 ⟨lv8, rfl, hlv8, hb8⟩; have hD8 := hD7.below hb8) | (go_at_call 29; refine (Logs_R hD8.two.r (by omega)).mono ?_; rintro e w9 ⟨lv9, rfl, hlv9, hb9⟩; have hD9 := hD8.below hb9) | (go_at_call 20; refine (SameLogs_same (hlv8.below hb9) hlv9 (hD9.pl.top _) (Nat.le_trans (lgF_le _) (by omega))).mono ?_; rintro e w10 ⟨rfl, hb10⟩; have hD10 := hD9.below hb10))
        go_roundw
        case rel => exact ⟨i + 1, by omega, by omega, by go_num, F', G', N', _, hD10⟩
        case measure => simp [intOf]; omega
      · obtain rfl : i = 100 := by omega
        go_wp2
        go_ret
        exact ⟨rfl, hBr⟩
    · obtain rfl : i = ops.length := by omega
      go_wp2
      go_ret
      exact ⟨rfl, hBr⟩
end Go.Proofs.YtcdjdnbdblpofaaDoor
