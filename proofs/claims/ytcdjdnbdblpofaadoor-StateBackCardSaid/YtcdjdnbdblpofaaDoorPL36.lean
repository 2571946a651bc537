/-
  Texts of one proof, one behind the other. Conditions: each text's own line says them.
-/
import Derived.Test.YtcdjdnbdblpofaaDoorPL25
import Derived.Test.YtcdjdnbdblpofaaDoorPL33
import Derived.Test.YtcdjdnbdblpofaaDoorPL34
import Derived.Test.YtcdjdnbdblpofaaDoorPL35

/- All balances together stay the same. Conditions: what was moved was moved between known accounts. -/
namespace Go.Proofs.YtcdjdnbdblpofaaDoor
open Go.RowKit Go.Maps
set_option linter.unusedSimpArgs false
set_option linter.unusedVariables false

/-- None of the first i has this address. -/
def fstF (L : List Kw) (a : ByteArray) (i : Nat) : Bool := (L.take i).all fun K => !decide (K.ad = a)
theorem fstF_zero (L : List Kw) (a : ByteArray) : fstF L a 0 = true := rfl
theorem fstF_succ {L : List Kw} {a : ByteArray} {i : Nat} {K : Kw} (h : L[i]? = some K) : fstF L a (i + 1) = (fstF L a i && !decide (K.ad = a)) := by
  have hi := (List.getElem?_eq_some_iff.1 h).1
  unfold fstF
  rw [List.take_succ_eq_append_getElem hi, (List.getElem?_eq_some_iff.1 h).2, List.all_append]
  simp
/-- All balances together of the first i, each address once. -/
def suF (L : List Kw) (g : ByteArray → Nat) : Nat → Nat
  | 0 => 0
  | i + 1 => match L[i]? with
    | some K => if fstF L K.ad i then addN (suF L g i) (g K.ad) else suF L g i
    | none => suF L g i
theorem suF_succ {L : List Kw} {g : ByteArray → Nat} {i : Nat} {K : Kw} (h : L[i]? = some K) : suF L g (i + 1) = if fstF L K.ad i then addN (suF L g i) (g K.ad) else suF L g i := by
  show (match L[i]? with | some K => _ | none => _) = _
  rw [h]
theorem suF_lt (L : List Kw) (g : ByteArray → Nat) : ∀ i, suF L g i < Q256
  | 0 => Q256_pos
  | i + 1 => by
    have ih := suF_lt L g i
    unfold suF
    split
    · split
      · exact addN_lt _ _
      · exact ih
    · exact ih
theorem suF_move {L : List Kw} {f t : ByteArray} {n : Nat} (hne : f ≠ t) (hn : n < Q256) (g : ByteArray → Nat) (hg : ∀ a, g a < Q256) :
    ∀ i, i ≤ L.length → addN (suF L (mvF f t n g) i) (if fstF L f i then 0 else n) = addN (suF L g i) (if fstF L t i then 0 else n)
  | 0, _ => rfl
  | i + 1, hi => by
    have ih := suF_move (L := L) hne hn g hg i (by omega)
    obtain ⟨K, hK⟩ : ∃ K, L[i]? = some K := ⟨_, List.getElem?_eq_getElem (by omega)⟩
    have s1 := suF_lt L (mvF f t n g) i
    have s2 := suF_lt L g i
    have hga := hg K.ad
    rw [suF_succ hK, suF_succ hK, fstF_succ hK, fstF_succ hK]
    generalize suF L (mvF f t n g) i = S' at *
    generalize suF L g i = S at *
    by_cases e1 : K.ad = f
    · have e2 : ¬ K.ad = t := fun e => hne (e1.symm.trans e)
      have hm : mvF f t n g K.ad = subN (g K.ad) n := by
        unfold mvF
        dsimp only
        rw [if_neg e2, if_pos e1]
      rw [hm]
      have hne' : ¬ f = t := hne
      simp only [e1, hne', decide_true, decide_false, Bool.not_true, Bool.not_false, Bool.and_false, Bool.and_true, Bool.false_eq_true, if_false]
      rw [e1] at hga
      generalize g f = x at *
      cases h : fstF L f i
      · simp only [h, Bool.false_eq_true, if_false] at ih ⊢
        exact ih
      · simp only [h, if_true] at ih ⊢
        generalize (if fstF L t i = true then 0 else n) = y at *
        unfold addN subN Q256 at *
        omega
    · by_cases e2 : K.ad = t
      · have hm : mvF f t n g K.ad = addN (g K.ad) n := by
          unfold mvF
          dsimp only
          rw [if_pos e2, if_neg e1]
        rw [hm]
        simp only [e1, e2, decide_true, decide_false, Bool.not_true, Bool.not_false, Bool.and_false, Bool.and_true, Bool.false_eq_true, if_false]
        rw [e2] at hga
        have hne' : ¬ t = f := fun e => hne e.symm
        simp only [hne', decide_false, Bool.not_false, Bool.and_true]
        generalize g t = x at *
        cases h : fstF L t i
        · simp only [h, Bool.false_eq_true, if_false] at ih ⊢
          exact ih
        · simp only [h, if_true] at ih ⊢
          generalize (if fstF L f i = true then 0 else n) = y at *
          unfold addN Q256 at *
          omega
      · have hm : mvF f t n g K.ad = g K.ad := by
          unfold mvF
          dsimp only
          rw [if_neg e2, if_neg e1]
        rw [hm]
        simp only [e1, e2, decide_false, Bool.not_false, Bool.and_true]
        generalize g K.ad = x at *
        split
        · generalize (if fstF L f i = true then 0 else n) = y at *
          generalize (if fstF L t i = true then 0 else n) = z at *
          unfold addN Q256 at *
          omega
        · exact ih
theorem fstF_known {L : List Kw} {a : ByteArray} {K : Kw} (h : kfind L a = some K) : fstF L a L.length = false := by
  unfold fstF
  rw [List.take_length, List.all_eq_false]
  refine ⟨K, List.mem_of_find?_eq_some h, ?_⟩
  have := List.find?_some h
  simpa using this
/-- All balances together are what they were at first. -/
theorem suF_same {L : List Kw} (hL : ∀ K ∈ L, K.ba < Q256) : ∀ R : List Chg, Rok L R → suF L (baF L R) L.length = suF L (ba0 L) L.length
  | [], _ => rfl
  | c :: R, h => by
    have ih := suF_same hL R h.2.2.2
    rw [← ih]
    cases c with
    | move f t n =>
      obtain ⟨hok, ⟨⟨Kf, hf⟩, ⟨Kt, ht⟩⟩, _, _⟩ := h
      have hx := baF_lt hL R
      have e : (baF L (.move f t n :: R)) = mvF f t n (baF L R) := by funext a; rfl
      rw [e]
      by_cases hft : f = t
      · subst hft
        have : mvF f f n (baF L R) = baF L R := by
          funext a
          unfold mvF
          dsimp only
          split
          · exact add_sub (hx a) hok.2.2
          · rfl
        rw [this]
      · have h1 := suF_move hft hok.2.2 (baF L R) hx L.length (Nat.le_refl _)
        rw [fstF_known hf, fstF_known ht] at h1
        simp only [Bool.false_eq_true, if_false] at h1
        have s1 := suF_lt L (mvF f t n (baF L R)) L.length
        have s2 := suF_lt L (baF L R) L.length
        have hn : n < Q256 := hok.2.2
        generalize suF L (mvF f t n (baF L R)) L.length = x at *
        generalize suF L (baF L R) L.length = y at *
        unfold addN Q256 at *
        omega
    | save p v => rfl
    | brief p v => rfl
    | warm a => rfl
    | cell p => rfl
    | note l => rfl
theorem kfind_mem {L : List Kw} {K : Kw} (h : K ∈ L) : ∃ K', kfind L K.ad = some K' := by
  unfold kfind
  cases e : L.find? fun K' => decide (K'.ad = K.ad) with
  | some K' => exact ⟨K', rfl⟩
  | none =>
    rw [List.find?_eq_none] at e
    exact absurd (e K h) (by simp)
theorem balN_mem {L : List Kw} {R : List Chg} {K : Kw} (h : K ∈ L) : balN L R K.ad = baF L R K.ad := by
  obtain ⟨K', hk⟩ := kfind_mem h
  exact balN_some hk
end Go.Proofs.YtcdjdnbdblpofaaDoor

/- sum: all balances together, of addresses that are unlike. Conditions: the state is one. -/
namespace Go.Proofs.YtcdjdnbdblpofaaDoor
open Go.RowKit Go.Maps
attribute [local go_sem] leftBy leaves eqW guardW
set_option linter.unusedSimpArgs false
set_option linter.unusedVariables false

theorem sum_add {a b : Nat} : addN a b = (a + b) % Q256 := rfl

section
variable {W : World} {F : Nat → Prop} {b N : Nat} {L : List Kw} {R : List Chg}

set_option maxRecDepth 100000 in
set_option maxHeartbeats 16000000 in
theorem sum_L {sa : Option Addr} {sc : Nat} (h : SRep W F b N L R) (hk : knL W (.slice sa L.length sc) L) (hL : ∀ K ∈ L, K.ba < Q256) (hT : ∀ K ∈ L, okT K.ad) (hn : L.length ≤ 1000) :
    Calls Tryd.prog 26 #[ptr (b + 6), .slice sa L.length sc] W fun e w' => e = .returned (W4 (suF L (baF L R) L.length)) ∧ Below W.heap.size W w' := by
  obtain ⟨sa', sc', hv, hn1, hn2, hcell⟩ := hk
  obtain ⟨rfl, rfl⟩ : sa = sa' ∧ sc = sc' := by simpa using hv
  unfold maxLen at hn2
  have hn3 : L.length ≤ 9223372036854775807 := by omega
  have hn4 : sc ≤ 9223372036854775807 := by omega
  have HC := Lib.hid hcell
  have HT := Lib.hid hT
  have HS := Lib.hid h
  have HB := Lib.hid fun K (hK : K ∈ L) => balN_mem (R := R) hK
  have HL := Lib.hid fun a => baF_lt hL R a
  have cA : ∀ x y w, x < Q256 → y < Q256 → Calls Tryd.prog 43 #[W4 x, W4 y] w fun e w' => e = .returned (W4 (addN x y)) ∧ Below w.heap.size w w' := fun x y w hx hy => Add_any x y hx hy w
  have HA := Lib.hid cA
  clear hcell h hT hL hv cA
  unfold ptr
  go_enter Tryd.func26, Tryd.ntmps26
  go_wp2
  have b1 : Below W.heap.size W ((W.alloc (.cells #[.int .u64 0, .int .u64 0, .int .u64 0, .int .u64 0] 25)).alloc (.cells #[.int .u64 0, .int .u64 0, .int .u64 0, .int .u64 0] 25)) := ((Below.refl _ W).alloc (Nat.le_refl _) _).alloc (by simp) _
  have rb : ((W.alloc (.cells #[.int .u64 0, .int .u64 0, .int .u64 0, .int .u64 0] 25)).alloc (.cells #[.int .u64 0, .int .u64 0, .int .u64 0, .int .u64 0] 25)).heap[W.heap.size]? = _ := (Below.heap_alloc _ _ _ (by simp)).trans (heap_new rfl)
  have pb0 : ((W.alloc (.cells #[.int .u64 0, .int .u64 0, .int .u64 0, .int .u64 0] 25)).alloc (.cells #[.int .u64 0, .int .u64 0, .int .u64 0, .int .u64 0] 25)).heap[W.heap.size + 1]? = _ := heap_new (by simp)
  have z1 : W.heap.size + 2 ≤ ((W.alloc (.cells #[.int .u64 0, .int .u64 0, .int .u64 0, .int .u64 0] 25)).alloc (.cells #[.int .u64 0, .int .u64 0, .int .u64 0, .int .u64 0] 25)).heap.size := by simp
  generalize ((W.alloc (.cells #[.int .u64 0, .int .u64 0, .int .u64 0, .int .u64 0] 25)).alloc (.cells #[.int .u64 0, .int .u64 0, .int .u64 0, .int .u64 0] 25)) = W1 at *
  have pb : W1.heap[W.heap.size + 1]? = some (.cells #[.int .u64 (lb (suF L (baF L R) 0) 0 : Nat), .int .u64 (lb (suF L (baF L R) 0) 1 : Nat), .int .u64 (lb (suF L (baF L R) 0) 2 : Nat), .int .u64 (lb (suF L (baF L R) 0) 3 : Nat)] 25 (0, 0)) := by
    rw [show suF L (baF L R) 0 = 0 from rfl]
    simpa only [lb_nil, Int.natCast_zero] using pb0
  clear pb0
  go_loopw [6] (fun v wr => ∃ i : Nat, i ≤ L.length ∧ v = .int .i64 (i : Nat) ∧ Fr (fun k => k = W.heap.size + 1) W1 wr ∧ wr.heap[W.heap.size + 1]? = some (.cells #[.int .u64 (lb (suF L (baF L R) i) 0 : Nat), .int .u64 (lb (suF L (baF L R) i) 1 : Nat), .int .u64 (lb (suF L (baF L R) i) 2 : Nat), .int .u64 (lb (suF L (baF L R) i) 3 : Nat)] 25 (0, 0))) (fun v _ => L.length - (intOf v).toNat)
  case atStart => exact ⟨0, Nat.zero_le _, rfl, Fr.refl _ _, pb⟩
  case round =>
    obtain ⟨i, hi, rfl, hF, hp⟩ := hrel
    have szr := hF.size
    have hB : Below W.heap.size W wr := b1.trans (hF.toBelow (by omega) (fun k hk => by omega))
    by_cases hli : i < L.length
    · obtain ⟨K, hK⟩ : ∃ K, L[i]? = some K := ⟨_, List.getElem?_eq_getElem hli⟩
      obtain ⟨bl, o, rfl, hc⟩ := HC.out i K hK
      have hbl : bl < W.heap.size := cell_lt (hc 0 _ rfl)
      have G0 : _ = some (Value.string K.ad) := (hB.cell (p := ⟨bl, o + i * 12 + 0, none⟩) hbl).trans (hc 0 _ rfl)
      rw [Nat.add_zero] at G0
      have hKm : K ∈ L := List.mem_of_getElem? hK
      have hst := suF_succ (g := baF L R) hK
      have hbal := HB.out K hKm
      have hbt := HT.out K hKm
      have hgl := HL.out K.ad
      have hsl := suF_lt L (baF L R) i
      clear hc
      have hn5 : i ≤ 1000 := by omega
      generalize suF L (baF L R) i = x at *
      have HST := Lib.hid hst
      have HF := Lib.hid hF
      have HBr := Lib.hid hB
      clear hst hF hB
      go_wp2
      obtain ⟨wo, hwo⟩ : ∃ wo : World, wo = wr := ⟨_, rfl⟩
      go_loopw [7, 8] (fun f v w2 => ∃ j : Nat, j ≤ i ∧ v = .int .i64 (j : Nat) ∧ f = .bool (fstF L K.ad j) ∧ Fr (fun _ => False) wo w2) (fun _ v _ => i - (intOf v).toNat)
      case atStart => exact ⟨0, Nat.zero_le _, rfl, rfl, by rw [hwo]; exact Fr.refl _ _⟩
      case round =>
        subst hwo
        obtain ⟨j, hj, rfl, rfl, hF2⟩ := hrel
        have szr2 := hF2.size
        by_cases hji : j < i
        · obtain ⟨K2, hK2⟩ : ∃ K2, L[j]? = some K2 := ⟨_, List.getElem?_eq_getElem (by omega)⟩
          obtain ⟨bl2, o2, e, hc2⟩ := HC.out j K2 hK2
          obtain ⟨rfl, rfl⟩ : bl = bl2 ∧ o = o2 := by simpa using e
          have G1 : _ = some (Value.string K2.ad) := (HBr.out.cell (p := ⟨bl, o + j * 12 + 0, none⟩) hbl).trans (hc2 0 _ rfl)
          rw [Nat.add_zero] at G1
          have szo := HBr.out.size
          have hjl : j < L.length := by omega
          have g0 := hF2.cell G0 id (by omega)
          have g1 := hF2.cell G1 id (by omega)
          have hfs := fstF_succ (a := K.ad) hK2
          have HF2 := Lib.hid hF2
          clear e hc2 hK2 hF2
          generalize K2.ad = a2 at *
          cases hf : fstF L K.ad j with
          | true =>
            rw [hf, Bool.true_and] at hfs
            by_cases he : a2 = K.ad
            · have hq : (a2.toList == K.ad.toList) = true := by rw [beqS]; exact decide_eq_true he
              rw [decide_eq_true he] at hfs
              go_wp2
              refine wp_flowU (fun k => ([1, 1, 1, 1, 1, 1, 1, 1, 1, 1, 1, 1, 1, 1, 1] : List Nat).getD k 1) (fun (_ : Unit) w' => Fr (fun _ => False) wr w') (fun _ => True) (()) (Fr.drew (Fr.refl _ _)) trivial (by kernel_rfl) (by kernel_rfl) ?_
              iterate 2 ((refine flowU_readE rfl rfl (fun K hK => ?_); apply Exists.intro; apply And.intro; (focus (intro w' hR; have y0 := hR.cell g0 id (by omega); have y1 := hR.cell g1 id (by omega); clear hR; go_simp; (try go_bits); exact rfl)); go_simp; (try go_bits); refine hK _ ?_; clear hK K))
              iterate 11 (first | (refine flowU_skip rfl (fun K hK => ?_); go_simp; (try go_bits); refine hK _ ?_; clear hK K) | (refine flowU_readE rfl rfl (fun K hK => ?_); apply Exists.intro; apply And.intro; (focus (intro w' hR; have y0 := hR.cell g0 id (by omega); have y1 := hR.cell g1 id (by omega); clear hR; go_simp; (try go_bits); exact rfl)); go_simp; (try go_bits); refine hK _ ?_; clear hK K))
              iterate 2 ((refine flowU_readE rfl rfl (fun K hK => ?_); apply Exists.intro; apply And.intro; (focus (intro w' hR; have y0 := hR.cell g0 id (by omega); have y1 := hR.cell g1 id (by omega); clear hR; go_simp; (try go_bits); exact rfl)); go_simp; (try go_bits); refine hK _ ?_; clear hK K))
              refine flowU_nil ?_
              intro w3 hR
              have HF3 := Lib.hid (HF2.out.trans ⟨hR.os, hR.tape, hR.output, hR.size, hR.block⟩)
              clear hR HF2
              go_wp2
              go_roundw
              case rel => exact ⟨j + 1, by omega, by go_num, by simp [hfs], HF3.out⟩
              case measure => simp [intOf]; omega
            · have hq : (a2.toList == K.ad.toList) = false := by rw [beqS]; exact decide_eq_false he
              rw [decide_eq_false he] at hfs
              go_wp2
              refine wp_flowU (fun k => ([1, 1, 1, 1, 1, 1, 1, 1, 1, 1, 1, 1, 1, 1, 1] : List Nat).getD k 1) (fun (_ : Unit) w' => Fr (fun _ => False) wr w') (fun _ => True) (()) (Fr.drew (Fr.refl _ _)) trivial (by kernel_rfl) (by kernel_rfl) ?_
              iterate 2 ((refine flowU_readE rfl rfl (fun K hK => ?_); apply Exists.intro; apply And.intro; (focus (intro w' hR; have y0 := hR.cell g0 id (by omega); have y1 := hR.cell g1 id (by omega); clear hR; go_simp; (try go_bits); exact rfl)); go_simp; (try go_bits); refine hK _ ?_; clear hK K))
              iterate 11 (first | (refine flowU_skip rfl (fun K hK => ?_); go_simp; (try go_bits); refine hK _ ?_; clear hK K) | (refine flowU_readE rfl rfl (fun K hK => ?_); apply Exists.intro; apply And.intro; (focus (intro w' hR; have y0 := hR.cell g0 id (by omega); have y1 := hR.cell g1 id (by omega); clear hR; go_simp; (try go_bits); exact rfl)); go_simp; (try go_bits); refine hK _ ?_; clear hK K))
              iterate 2 ((refine flowU_readE rfl rfl (fun K hK => ?_); apply Exists.intro; apply And.intro; (focus (intro w' hR; have y0 := hR.cell g0 id (by omega); have y1 := hR.cell g1 id (by omega); clear hR; go_simp; (try go_bits); exact rfl)); go_simp; (try go_bits); refine hK _ ?_; clear hK K))
              refine flowU_nil ?_
              intro w3 hR
              have HF3 := Lib.hid (HF2.out.trans ⟨hR.os, hR.tape, hR.output, hR.size, hR.block⟩)
              clear hR HF2
              go_wp2
              go_roundw
              case rel => exact ⟨j + 1, by omega, by go_num, by simp [hfs], HF3.out⟩
              case measure => simp [intOf]; omega
          | false =>
            rw [hf, Bool.false_and] at hfs
            go_wp2
            refine wp_flowU (fun k => ([1, 1, 1, 1, 1, 1, 1, 1, 1, 1, 1, 1, 1, 1, 1] : List Nat).getD k 1) (fun (_ : Unit) w' => Fr (fun _ => False) wr w') (fun _ => True) (()) (Fr.drew (Fr.refl _ _)) trivial (by kernel_rfl) (by kernel_rfl) ?_
            iterate 2 ((refine flowU_readE rfl rfl (fun K hK => ?_); apply Exists.intro; apply And.intro; (focus (intro w' hR; have y0 := hR.cell g0 id (by omega); have y1 := hR.cell g1 id (by omega); clear hR; go_simp; (try go_bits); exact rfl)); go_simp; (try go_bits); refine hK _ ?_; clear hK K))
            iterate 11 (first | (refine flowU_skip rfl (fun K hK => ?_); go_simp; (try go_bits); refine hK _ ?_; clear hK K) | (refine flowU_readE rfl rfl (fun K hK => ?_); apply Exists.intro; apply And.intro; (focus (intro w' hR; have y0 := hR.cell g0 id (by omega); have y1 := hR.cell g1 id (by omega); clear hR; go_simp; (try go_bits); exact rfl)); go_simp; (try go_bits); refine hK _ ?_; clear hK K))
            iterate 2 ((refine flowU_readE rfl rfl (fun K hK => ?_); apply Exists.intro; apply And.intro; (focus (intro w' hR; have y0 := hR.cell g0 id (by omega); have y1 := hR.cell g1 id (by omega); clear hR; go_simp; (try go_bits); exact rfl)); go_simp; (try go_bits); refine hK _ ?_; clear hK K))
            refine flowU_nil ?_
            intro w3 hR
            have HF3 := Lib.hid (HF2.out.trans ⟨hR.os, hR.tape, hR.output, hR.size, hR.block⟩)
            clear hR HF2
            go_wp2
            go_roundw
            case rel => exact ⟨j + 1, by omega, by go_num, by simp [hfs], HF3.out⟩
            case measure => simp [intOf]; omega
        · obtain rfl : j = i := by omega
          have hF3 := HF.out.trans (hF2.mono (T' := fun k => k = W.heap.size + 1) fun k hk => hk.elim)
          have hp2 := (hF2.block _ (by omega) id).trans hp
          have g0 := hF2.cell G0 id (by have := HBr.out.size; omega)
          cases hf : fstF L K.ad j with
          | true =>
            have hst := HST.out
            rw [hf, if_pos rfl] at hst
            have hB3 : Below W.heap.size W wr := b1.trans (hF3.toBelow (by omega) (fun k hk => by omega))
            have cB := Balance_S (HS.out.below hB3) hbt
            rw [hbal] at cB
            have cA := HA.out x (baF L R K.ad) 
            generalize baF L R K.ad = y at *
            generalize kerr L K.ad = er at *
            have HST2 := Lib.hid hst
            clear hst HST hbal
            unfold ptr at cB
            go_wp2_with (first | (go_at_call 11; refine cB.mono ?_; rintro e wa ⟨rfl, hb_wa⟩; have za : wr.heap.size ≤ wa.heap.size := hb_wa.size; have hp3 := (hb_wa.block _ (by omega)).trans hp2; obtain ⟨p0, p1, p2, p3⟩ := cells4w hp3; have zl : W.heap.size + 1 < wa.heap.size := (by omega)) | (go_at_call 43; refine (cA _ hsl hgl).mono ?_; rintro e wc ⟨rfl, hb_wc⟩; have hp4 := (hb_wc.block _ (by simp only [World.size_alloc]; omega)).trans ((Below.heap_alloc _ _ _ (by omega)).trans hp3); obtain ⟨r0, r1, r2, r3⟩ := cells4w hp4; have rf : ∀ j, wc.frozen? ⟨W.heap.size + 1, j, none⟩ = false := fun j => (by simp [World.frozen?, hp4])))
            exact ⟨⟨j + 1, by omega, by go_num, ((((((hF3.below hb_wa).alloc _).below hb_wc).setCell (.inl rfl) _).setCell (.inl rfl) _).setCell (.inl rfl) _).setCell (.inl rfl) _, by rw [HST2.out]; exact store4 hp4 _ _ _ _⟩, by simp [intOf]; omega⟩
          | false =>
            have hst := HST.out
            rw [hf, if_neg (by simp)] at hst
            go_wp2
            exact ⟨⟨j + 1, by omega, by go_num, hF3, by rw [hst]; exact hp2⟩, by simp [intOf]; omega⟩
    · obtain rfl : i = L.length := by omega
      obtain ⟨p0, p1, p2, p3⟩ := cells4w hp
      have rb2 := (hF.block _ (by omega) (by omega)).trans rb
      obtain ⟨q0, q1, q2, q3⟩ := cells4w rb2
      have qf : ∀ j, wr.frozen? ⟨W.heap.size, j, none⟩ = false := fun j => by simp [World.frozen?, rb2]
      clear hF hp
      go_wp2
      refine bodyPost_ret (by simp only [results, Tryd.results26]; go_simp; try rfl) rfl ⟨rfl, ?_⟩
      exact (((hB.setCell (Nat.le_refl _) _).setCell (Nat.le_refl _) _).setCell (Nat.le_refl _) _).setCell (Nat.le_refl _) _
end
end Go.Proofs.YtcdjdnbdblpofaaDoor

/- A state and the document's, side by side, behind some calls. Conditions: none. -/
namespace Go.Proofs.YtcdjdnbdblpofaaDoor
open Go.RowKit Go.Maps
set_option linter.unusedSimpArgs false
set_option linter.unusedVariables false

/-- No log that was noted has topics. -/
def Rpl (R : List Chg) : Prop := ∀ c ∈ R, ∀ l, c = .note l → l.tops = [] ∧ l.tn = 0 ∧ l.tc = 0
theorem Rpl.stp {L : List Kw} {R : List Chg} (h : Rpl R) (x : Opx) (k : Int) : Rpl (stp L R x k) := by
  by_cases hk : k = 12
  · subst hk
    show Rpl (bkR R x.n)
    unfold bkR
    split
    · exact fun c hc => h c (List.mem_of_mem_drop hc)
    · exact h
  · rcases stp_new L R x hk with e | ⟨c, e⟩
    · rw [e]; exact h
    · intro d hd l hl
      rw [e] at hd
      rcases List.mem_cons.1 hd with rfl | hd
      · unfold Go.Proofs.YtcdjdnbdblpofaaDoor.stp saR' moR waR wcR bkR at e
        repeat' split at e
        all_goals first | (injection e with e1 e2; subst e1; first | (cases hl; done) | (injection hl with hl; subst hl; exact ⟨rfl, rfl, rfl⟩)) | exact absurd (congrArg List.length e) (by simp) | exact absurd ‹_› hk | skip
      · exact h d hd l hl
theorem lgF_mem : ∀ {R : List Chg} {l : Lg}, l ∈ lgF R → Chg.note l ∈ R
  | [], _, h => by cases h
  | c :: R, l, h => by
    cases c with
    | note l' =>
      rcases List.mem_append.1 (show l ∈ lgF R ++ [l'] from h) with h | h
      · exact List.mem_cons_of_mem _ (lgF_mem h)
      · rw [List.mem_singleton.1 h]; exact List.mem_cons_self ..
    | save p v => exact List.mem_cons_of_mem _ (lgF_mem (R := R) h)
    | brief p v => exact List.mem_cons_of_mem _ (lgF_mem (R := R) h)
    | move f t n => exact List.mem_cons_of_mem _ (lgF_mem (R := R) h)
    | warm a => exact List.mem_cons_of_mem _ (lgF_mem (R := R) h)
    | cell p => exact List.mem_cons_of_mem _ (lgF_mem (R := R) h)
theorem Rpl.top {R : List Chg} (h : Rpl R) (W : World) : ∀ l ∈ lgF R, topV W l := fun l hl => by
  obtain ⟨h1, h2, h3⟩ := h _ (lgF_mem hl) l rfl
  refine ⟨by rw [h1, h2]; rfl, by omega, by rw [h3]; exact Nat.zero_le _, fun j s hs => ?_⟩
  rw [h1] at hs
  cases hs

/-- Both, behind i calls. -/
structure Das (W0 w : World) (F G : Nat → Prop) (b q N : Nat) (L : List Kw) (lv : Value) (R : List Chg) (i : Nat) : Prop where
  two : Two W0 w F G b q N L lv R R
  rok : Rok L R
  len : R.length ≤ i
  bn : N ≤ 400 + 202 * i
  pl : Rpl R
section
variable {W0 w w' : World} {F G : Nat → Prop} {b q N i : Nat} {L : List Kw} {lv : Value} {R : List Chg}
theorem Das.below (h : Das W0 w F G b q N L lv R i) (hb : Below w.heap.size w w') : Das W0 w' F G b q N L lv R i := ⟨h.two.below hb, h.rok, h.len, h.bn, h.pl⟩
theorem does_D (hB0 : Bas W0 L lv) (h : Das W0 w F G b q N L lv R i) (hi : i < 100) (x : Opx) (hx : x.ok) :
    Calls Tryd.prog 27 #[ptr (b + 6), ptr q, x.v] w fun e w' => e = .returned (.bool true) ∧ ∃ F' G' N', Das W0 w' F' G' b q N' L lv (stp L R x (pkN x.ki)) (i + 1) ∧ Kp w w' F G F' G' := by
  have hl := h.len
  have hn := h.bn
  refine (does_any hB0 h.two h.rok (by omega) (by omega) x hx).mono ?_
  rintro e w' ⟨he, F', G', hT, hK⟩
  refine ⟨he, F', G', _, ⟨hT, stp_ok hx h.rok _, ?_, by omega, h.pl.stp x _⟩, hK⟩
  have := stp_len L R x (pkN x.ki)
  omega
theorem Das.init {wa w1 w2 : World} (hn : L.length ≤ 50) (hb1 : Below wa.heap.size wa w1) (hS : SRep w1 (fun k => wa.heap.size ≤ k ∧ k < w1.heap.size) wa.heap.size (2 * L.length) L []) (hb2 : Below w1.heap.size w1 w2) (hr : RRep w2 (fun k => k = w1.heap.size) w1.heap.size lv []) :
    Das wa w2 (fun k => wa.heap.size ≤ k ∧ k < w1.heap.size) (fun k => k = w1.heap.size) wa.heap.size w1.heap.size (2 * L.length) L lv [] 0 :=
  ⟨⟨hS.below hb2, hr, fun k hk => hk.1, fun k hk => by rw [hk]; exact hb1.size, fun k hk e => by omega, hb1.trans (hb2.mono hb1.size)⟩, trivial, Nat.le_refl _, by omega, fun c hc => by cases hc⟩
end
end Go.Proofs.YtcdjdnbdblpofaaDoor

/- The walk of pharoslaw19.StateBack. Conditions: what comes in is right; the three tables stand in their blocks. -/
namespace Go.Proofs.YtcdjdnbdblpofaaDoor
open Go.RowKit Go.Maps
attribute [local go_sem] leftBy leaves eqW guardW
set_option linter.unusedSimpArgs false
set_option linter.unusedVariables false

/-- A list of logs comes back, in a block of its own. -/
def lgPost2 (W : World) (l : List Lg) (e : Ending) (w' : World) : Prop := ∃ a c, e = .returned (.slice a l.length c) ∧ lgV w' (.slice a l.length c) l ∧ Below W.heap.size W w' ∧ ∀ p, a = some p → W.heap.size ≤ p.block ∧ p.block < w'.heap.size
set_option maxRecDepth 100000 in
set_option maxHeartbeats 4000000 in
theorem Clone_new {W : World} {v : Value} {l : List Lg} (h : W.ownsRow 0 43 3 v l.length (lgC l)) (hl : l.length ≤ 1000000) :
    Calls Tryd.prog 38 #[v] W (lgPost2 W l) := by
  obtain ⟨i0, hi, hz0, hz1, hz2⟩ := info_parts infoL
  have hV := lgV_of_row h
  have hen : ∀ (w : World) (a : Option Addr) (n c : Nat), (binOp .eql 37 (.slice a n c) (.slice none 0 0)).run Tryd.prog w = .ok (.bool a.isNone) w := fun w a n c => Lib.run_eql_slice_nil w _ _ a n c 0 0 Tryd.underlying37
  rcases h.2 with ⟨rfl, h0⟩ | ⟨g, cap, cur, rfl, h2, h3, h4, h5, h6, h7⟩
  · go_enter Tryd.func38, Tryd.ntmps38
    go_wp2
    go_ret
    exact ⟨none, 0, by rw [h0]; rfl, by rw [h0]; exact hV, Below.refl _ _, fun p hp => by cases hp⟩
  · have hcell := h.cells (g := g) rfl
    go_enter Tryd.func38, Tryd.ntmps38
    have hE := World.ownsRow_lit (base := W.heap.size) (e := 43) (size := 3) W #[] 0 (Nat.le_refl _) (by decide) rfl
    have hnew : ∀ j u, (lgC l)[j]? = some u → (W.alloc (.cells #[] 43)).cell? ((⟨g, 0, none⟩ : Addr).add j) = some u := fun j u hj => by
      have h1 := hcell j u hj
      have h2 : ((⟨g, 0, none⟩ : Addr).add j).block = g := by unfold Addr.add; split <;> rfl
      exact (World.cell?_of_block (w := W) (by rw [h2]; exact Below.heap_alloc _ _ _ (by have := (Array.getElem?_eq_some_iff.1 h3).1; exact this))).trans h1
    clear hcell
    go_wp2_with (at_builtin; refine wpList_append_own_at _ rfl _ _ 37 rfl W.heap.size 43 i0 _ 3 56 Tryd.underlying37 hi hz0 hz1 hz2 rfl (by decide) _ 0 [] rfl hE ⟨g, 0, none⟩ l.length cap (lgC l) rfl (lgC_length l) hnew (lgC_one l) (by unfold maxLen; omega) (by omega) (by simp) ?_; intro v' w1 hown1 hgr1 _ _)
    go_ret
    have hb : Below W.heap.size W w1 := ((Below.refl _ W).alloc (Nat.le_refl _) _).grown hgr1 (by simp) (fun k hk => by
      obtain rfl : W.heap.size = k := Option.some.inj hk
      exact Nat.le_refl _)
    simp only [Nat.zero_add, List.nil_append] at hown1
    obtain ⟨a, c, hv2, _⟩ := lgV_of_row (ownsRow_base hown1)
    subst hv2
    exact ⟨a, c, rfl, lgV_of_row (ownsRow_base hown1), hb, fun p hp => by
      subst hp
      rcases hown1.2 with ⟨h0, _⟩ | ⟨g2, cap2, cur2, h0, hb2, hh2, _⟩
      · cases h0
      · simp only [Value.slice.injEq, Option.some.injEq] at h0
        obtain ⟨rfl, _⟩ := h0
        exact ⟨hb2, (Array.getElem?_eq_some_iff.1 hh2).1⟩⟩
set_option maxRecDepth 100000 in
set_option maxHeartbeats 4000000 in
theorem Logs_new {W : World} {F : Nat → Prop} {b N : Nat} {L : List Kw} {R : List Chg} (h : SRep W F b N L R) (hR : R.length ≤ 1000000) :
    Calls Tryd.prog 18 #[ptr (b + 6)] W (lgPost2 W (lgF R)) := by
  obtain ⟨un, hC, _⟩ := h
  obtain ⟨lg, s1, hrow, _⟩ := hC.st
  have cC := Clone_new hrow (by have := lgF_le R; omega)
  obtain ⟨_, _, _, _, _, _, c6, _, _⟩ := s1.cells
  have hlt := s1.lt
  clear hC hrow s1
  unfold ptr
  go_enter Tryd.func18, Tryd.ntmps18
  go_wp2_with (go_at_call 38; refine cC.mono ?_; rintro e w' ⟨la, lc, rfl, hv, hb, hf⟩)
  go_ret
  exact ⟨la, lc, rfl, hv, hb, hf⟩

/-- A word's variable, of neither state. -/
def Bx (w : World) (F G : Nat → Prop) (p v : Nat) : Prop := ¬ F p ∧ ¬ G p ∧ w.heap[p]? = some (.cells #[.int .u64 (lb v 0 : Nat), .int .u64 (lb v 1 : Nat), .int .u64 (lb v 2 : Nat), .int .u64 (lb v 3 : Nat)] 25 (0, 0))
theorem Bx.lt {w : World} {F G : Nat → Prop} {p v : Nat} (h : Bx w F G p v) : p < w.heap.size := (Array.getElem?_eq_some_iff.1 h.2.2).1
theorem Bx.kp {w w' : World} {F G F' G' : Nat → Prop} {p v : Nat} (h : Bx w F G p v) (hk : Kp w w' F G F' G') : Bx w' F' G' p v := by
  obtain ⟨a, b, c⟩ := hk.2 p h.lt h.1 h.2.1
  exact ⟨a, b, c.trans h.2.2⟩
theorem Bx.below {w w' : World} {F G : Nat → Prop} {p v : Nat} (h : Bx w F G p v) (hb : Below w.heap.size w w') : Bx w' F G p v := h.kp ((Kp.refl w F G).below hb)
/-- A list of logs, of neither state. -/
def Lx (w : World) (F G : Nat → Prop) (la : Option Addr) (lc : Nat) (l : List Lg) : Prop := lgV w (.slice la l.length lc) l ∧ ∀ p, la = some p → p.block < w.heap.size ∧ ¬ F p.block ∧ ¬ G p.block
theorem Lx.kp {w w' : World} {F G F' G' : Nat → Prop} {la : Option Addr} {lc : Nat} {l : List Lg} (h : Lx w F G la lc l) (hk : Kp w w' F G F' G') : Lx w' F' G' la lc l := by
  obtain ⟨⟨a, c, hv, h1, h2, h3⟩, h4⟩ := h
  refine ⟨?_, fun p hp => ?_⟩
  · rcases Nat.eq_zero_or_pos l.length with hz | hz
    · exact ⟨a, c, hv, h1, h2, fun i x hx => by rw [List.eq_nil_of_length_eq_zero hz] at hx; cases hx⟩
    · obtain ⟨rfl, rfl⟩ : la = a ∧ lc = c := by simpa using hv
      obtain ⟨x, hx⟩ : ∃ x, l[0]? = some x := ⟨_, List.getElem?_eq_getElem hz⟩
      obtain ⟨bb, o, rfl, c0, _⟩ := h3 0 x hx
      obtain ⟨_, nF, nG⟩ := h4 _ rfl
      have key := hk.2 bb (cell_lt c0) nF nG
      refine ⟨_, lc, rfl, h1, h2, fun i y hy => ?_⟩
      obtain ⟨b2, o2, e, y0, y1, y2⟩ := h3 i y hy
      cases e
      have m : ∀ j u, w.cell? ⟨bb, j, none⟩ = some u → w'.cell? ⟨bb, j, none⟩ = some u := fun j u hu => (World.cell?_of_block (a := ⟨bb, j, none⟩) key.2.2).trans hu
      exact ⟨bb, o, rfl, m _ _ y0, m _ _ y1, m _ _ y2⟩
  · obtain ⟨hl, nF, nG⟩ := h4 p hp
    obtain ⟨a', b', c'⟩ := hk.2 p.block hl nF nG
    exact ⟨Nat.lt_of_lt_of_le hl hk.1, a', b'⟩
theorem Das.up {W0 w : World} {F G : Nat → Prop} {b q N i j : Nat} {L : List Kw} {lv : Value} {R : List Chg} (h : Das W0 w F G b q N L lv R i) (hij : i ≤ j) : Das W0 w F G b q N L lv R j :=
  ⟨h.two, h.rok, Nat.le_trans h.len hij, by have := h.bn; omega, h.pl⟩
/-- What comes behind R. -/
def Onto (R R2 : List Chg) : Prop := R.length ≤ R2.length ∧ R2.drop (R2.length - R.length) = R
theorem Onto.refl (R : List Chg) : Onto R R := ⟨Nat.le_refl _, by rw [Nat.sub_self]; rfl⟩
theorem Onto.stp {L : List Kw} {R R2 : List Chg} (h : Onto R R2) (x : Opx) {k : Int} (hk : k ≠ 12) : Onto R (stp L R2 x k) := by
  rcases stp_new L R2 x hk with e | ⟨c, e⟩
  · rw [e]; exact h
  · rw [e]
    refine ⟨by have := h.1; simp only [List.length_cons]; omega, ?_⟩
    rw [List.length_cons, show R2.length + 1 - R.length = (R2.length - R.length) + 1 by have := h.1; omega, List.drop_succ_cons]
    exact h.2
theorem Onto.back {R R2 : List Chg} (h : Onto R R2) : bkR R2 (R.length : Int) = R ∧ bkE R2 (R.length : Int) = 0 := by
  have h1 := h.1
  unfold bkR bkE
  rw [if_pos ⟨by omega, by omega⟩, if_pos ⟨by omega, by omega⟩, Int.toNat_natCast]
  exact ⟨h.2, rfl⟩

/-- Between two rounds of the first loop; of the second. -/
def baI (W0 : World) (b q : Nat) (L : List Kw) (lv : Value) (i : Nat) (w : World) : Prop := ∃ F G N R, Das W0 w F G b q N L lv R i
def bbI (W0 : World) (b q : Nat) (L : List Kw) (lv : Value) (R : List Chg) (pA pB pC vA vB vC : Nat) (la : Option Addr) (lc : Nat) (j : Nat) (w : World) : Prop :=
  ∃ F G N R2, Das W0 w F G b q N L lv R2 (40 + j) ∧ Onto R R2 ∧ Bx w F G pA vA ∧ Bx w F G pB vB ∧ Bx w F G pC vC ∧ Lx w F G la lc (lgF R)

/-- In the last line: the list that was asked for. -/
def lgX (W1 : World) (l : List Lg) (s : Option Value) (w' : World) : Prop := Below W1.heap.size W1 w' ∧ match s with | none => True | some v => lgV w' v l

/-- The code behind a first part. -/
def sqC : Code → Code
  | .seq _ b => b
  | c => c
set_option maxRecDepth 100000 in
set_option maxHeartbeats 64000000 in
/-- The last part: going back, and asking again. -/
theorem back_fin {W wa : World} {b q : Nat} {L : List Kw} {lv : Value} (b0 : Below W.heap.size W wa) (zb0 : W.heap.size ≤ wa.heap.size) (hB0 : Bas wa L lv) {a : ByteArray} {k : Nat} (ha : okT a) (hk : k < Q256) (key0 : wa.heap[W.heap.size]? = some (.cells #[.int .u64 (lb k 0 : Nat), .int .u64 (lb k 1 : Nat), .int .u64 (lb k 2 : Nat), .int .u64 (lb k 3 : Nat)] 25 (0, 0))) (hk0 : W.heap.size < wa.heap.size) {R : List Chg} (hR9 : R.length ≤ 40) (hpl : Rpl R) {pA pB pC vA vB vC : Nat} {eA eB : Int} {la : Option Addr} {lc : Nat} (hCA : ∀ (w : World) (F G : Nat → Prop) (N : Nat) (Q : List Chg), Two wa w F G b q N L lv R Q → Calls Tryd.prog 11 #[ptr (b + 6), .string a] w (fun e w' => e = .returned (.tuple #[W4 vA, .int .i64 eA]) ∧ Below w.heap.size w w') ∧ Calls Tryd.prog 14 #[ptr (b + 6), .string a, W4 k] w (fun e w' => e = .returned (.tuple #[W4 vB, .int .i64 eB]) ∧ Below w.heap.size w w') ∧ Calls Tryd.prog 16 #[ptr (b + 6), .string a, W4 k] w (fun e w' => e = .returned (W4 vC) ∧ Below w.heap.size w w')) (u0 u1 u2 u4 u10 u13 u14 u22 u28 u29 u30 u31 u32 u33 u34 u35 u36 u37 u38 u39 u40 u41 u42 u43 u44 u45 u46 u47 u48 u49 u50 u51 u52 u53 u54 u55 u56 u57 u58 u59 u60 u61 u62 u63 u64 u65 u66 u67 u68 u69 u70 u71 u72 u73 u74 u75 u76 u77 u78 u79 u80 u81 u82 u83 u84 u85 u86 u87 u88 u89 u90 u91 u92 u93 u94 u95 u96 u97 u98 u99 : Value) {wr : World} {j : Nat} (hj40 : j ≤ 40) (hI2 : bbI wa b q L lv R pA pB pC vA vB vC la lc j wr) :
    Code.wp Tryd.prog (sqC (sqC (sqC (sqC (sqC (sqC (sqC (sqC (sqC (sqC (sqC (sqC (Tryd.f7.body.getD Code.skip))))))))))))) (bodyPost Tryd.prog Tryd.f7 fun e w' => e = .returned (.bool true) ∧ Below W.heap.size W w') ⟨#[u0, u1, u2, .string a, u4, undef, undef, undef, undef, .pointer (some ⟨W.heap.size, 0, none⟩), u10, .bool true, .pointer (some ⟨b + 6, 0, none⟩), u13, u14, .int .i64 (R.length : Nat), .slice la (lgF R).length lc, .pointer (some ⟨pA, 0, none⟩), .int .i64 eA, .pointer (some ⟨pB, 0, none⟩), .int .i64 eB, .pointer (some ⟨pC, 0, none⟩), u22, undef, undef, undef, undef, undef, u28, u29, u30, u31, u32, u33, u34, u35, u36, u37, u38, u39, u40, u41, u42, u43, u44, u45, u46, u47, u48, u49, u50, u51, u52, u53, u54, u55, u56, u57, u58, u59, u60, u61, u62, u63, u64, u65, u66, u67, u68, u69, u70, u71, u72, u73, u74, u75, u76, u77, u78, u79, u80, u81, u82, u83, u84, u85, u86, u87, u88, u89, u90, u91, u92, u93, u94, u95, u96, u97, u98, u99, undef, undef, undef, undef, undef, undef, undef, undef, undef, undef, undef, undef, undef, undef, undef, undef, undef, undef, undef, undef, undef, undef, undef, undef, undef, undef, undef, undef, undef, undef, undef, undef, undef, undef, undef, undef, undef, undef, undef, undef, undef, undef, undef, undef, undef, undef, undef, undef, undef, undef, undef, undef, undef, undef, undef, undef, undef, undef, undef, undef, undef], []⟩ wr := by
  show Code.wp Tryd.prog (Code.seq _ _) _ _ _
  have CA := Lib.hid hCA
  clear hCA
  obtain ⟨F2, G2, N2, R2, hD2, hO, hA2, hB2, hC2, hL2⟩ := hI2
  obtain ⟨hbk, hbe⟩ := hO.back
  have hl2 := hD2.len
  have hn2 := hD2.bn
  have cBk := Back_U hD2.two.s (hB0.below hD2.two.bel) hD2.rok (R.length : Int) (by omega) (by omega) (by omega)
  rw [hbk, hbe] at cBk
  unfold ptr at cBk
  go_wp2_with (first | (go_at_call 31; refine cBk.mono ?_; intro e w12 hm; obtain ⟨rfl, F3, hT12, hK12⟩ := hD2.two.stepS hm; have hA12 := hA2.kp hK12; have hB12 := hB2.kp hK12; have hC12 := hC2.kp hK12; have hL12 := hL2.kp hK12; clear hm) | (go_at_call 11; refine (CA.out _ _ _ _ _ hT12).1.mono ?_; rintro e w13 ⟨rfl, hb13⟩; have hT13 := hT12.below hb13; have key13 := (hT13.bel.block _ hk0).trans key0; obtain ⟨u0, u1, u2, u3⟩ := cells4w key13; have z13 : W.heap.size < w13.heap.size := (by have := hT13.bel.size; omega)) | (go_at_call 14; refine (CA.out _ _ _ _ _ (hT13.below ((Below.refl _ w13).alloc (Nat.le_refl _) _))).2.1.mono ?_; rintro e w14 ⟨rfl, hb14⟩; have hb134 := ((Below.refl _ w13).alloc (Nat.le_refl _) _).trans (hb14.mono (by simp)); have hT14 := hT13.below hb134; have hD14 := (hb14.block w13.heap.size (by simp)).trans (heap_new rfl)))
  have hb15 : Below w14.heap.size w14 (w14.alloc (.cells #[.int .u64 (lb vB 0 : Nat), .int .u64 (lb vB 1 : Nat), .int .u64 (lb vB 2 : Nat), .int .u64 (lb vB 3 : Nat)] 25)) := (Below.refl _ w14).alloc (Nat.le_refl _) _
  have hE15 : (w14.alloc (.cells #[.int .u64 (lb vB 0 : Nat), .int .u64 (lb vB 1 : Nat), .int .u64 (lb vB 2 : Nat), .int .u64 (lb vB 3 : Nat)] 25)).heap[w14.heap.size]? = some (.cells #[.int .u64 (lb vB 0 : Nat), .int .u64 (lb vB 1 : Nat), .int .u64 (lb vB 2 : Nat), .int .u64 (lb vB 3 : Nat)] 25 (0, 0)) := heap_new rfl
  have hb1215 := hb13.trans ((hb134.trans (hb15.mono hb134.size)).mono hb13.size)
  have hT15 := hT14.below hb15
  have hA15 := hA12.below hb1215
  have hB15 := hB12.below hb1215
  have hC15 := hC12.below hb1215
  have hL15 := hL12.kp ((Kp.refl _ _ _).below hb1215)
  have hD15 := (Below.heap_alloc w14 (.cells #[.int .u64 (lb vB 0 : Nat), .int .u64 (lb vB 1 : Nat), .int .u64 (lb vB 2 : Nat), .int .u64 (lb vB 3 : Nat)] 25) _ (Array.getElem?_eq_some_iff.1 hD14).1).trans hD14
  generalize w14.alloc (.cells #[.int .u64 (lb vB 0 : Nat), .int .u64 (lb vB 1 : Nat), .int .u64 (lb vB 2 : Nat), .int .u64 (lb vB 3 : Nat)] 25) = w15 at *
  have key15 := (hT15.bel.block _ hk0).trans key0
  have z0 : W.heap.size < w15.heap.size := by have := hT15.bel.size; omega
  have zA := hA15.lt
  have zB := hB15.lt
  have zC := hC15.lt
  have zD := (Array.getElem?_eq_some_iff.1 hD15).1
  have zE := (Array.getElem?_eq_some_iff.1 hE15).1
  have zbl := hT15.bel.size
  clear u0 u1 u2 u3
  obtain ⟨u0, u1, u2, u3⟩ := cells4w key15
  obtain ⟨a0, a1, a2, a3⟩ := cells4w hA15.2.2
  obtain ⟨c0, c1, c2, c3⟩ := cells4w hB15.2.2
  obtain ⟨d0, d1, d2, d3⟩ := cells4w hC15.2.2
  obtain ⟨m0, m1, m2, m3⟩ := cells4w hD15
  obtain ⟨n0, n1, n2, n3⟩ := cells4w hE15
  have cBr := fun w' (hb : Below w15.heap.size w15 w') => (CA.out _ _ _ _ _ (hT15.below hb)).2.2
  have cMa := fun w' (hb : Below w15.heap.size w15 w') => Mark_S (hT15.below hb).s
  have cLo := fun w' (hb : Below w15.heap.size w15 w') => Logs_S (hT15.below hb).s (by omega)
  have cSa := fun w' v (hb : Below w15.heap.size w15 w') (hv : lgV w' v (lgF R)) => SameLogs_same (hL15.1.below hb) hv (hpl.top w') (Nat.le_trans (lgF_le R) (by omega))
  unfold ptr at cBr cMa cLo
  clear hb13 hb134 hb14 hb15 hb1215 hT12 hT13 hT14 hA12 hB12 hC12 hL12 hD14 hA15 hB15 hC15 hD15 hE15 key13 key15 hbk hbe cBk hK12
  refine wp_flowM (fun k => ([1, 1, 1, 1, 1, 1, 1, 1, 1, 1, 1, 1, 1, 1, 1, 1, 1, 1, 1, 1, 1, 1, 1, 1, 1, 1, 0, 1, 1, 1, 2, 1, 1, 1, 1, 2, 0, 1, 1, 1, 0, 1, 2, 2, 1, 1] : List Nat).getD k 1) (lgX w15 (lgF R)) (fun _ => True) (none) (⟨Below.drew (Below.refl _ _), trivial⟩) trivial (by kernel_rfl) (by kernel_rfl) ?_
  iterate 2 ((refine flowU_readE rfl rfl (fun K hK => ?_); apply Exists.intro; apply And.intro; (focus (intro w' hR; have hc := (bcell hR.1).1; clear hR; go_simp; (try go_bits); exact rfl)); go_simp; (try go_bits); refine hK _ ?_; clear hK K))
  iterate 2 (first | (refine flowU_skip rfl (fun K hK => ?_); go_simp; (try go_bits); refine hK _ ?_; clear hK K) | (refine flowU_readE rfl rfl (fun K hK => ?_); apply Exists.intro; apply And.intro; (focus (intro w' hR; have hc := (bcell hR.1).1; clear hR; go_simp; (try go_bits); exact rfl)); go_simp; (try go_bits); refine hK _ ?_; clear hK K))
  iterate 2 ((refine flowU_readE rfl rfl (fun K hK => ?_); apply Exists.intro; apply And.intro; (focus (intro w' hR; have hc := (bcell hR.1).1; clear hR; go_simp; (try go_bits); exact rfl)); go_simp; (try go_bits); refine hK _ ?_; clear hK K))
  iterate 3 (first | (refine flowU_skip rfl (fun K hK => ?_); go_simp; (try go_bits); refine hK _ ?_; clear hK K) | (refine flowU_readE rfl rfl (fun K hK => ?_); apply Exists.intro; apply And.intro; (focus (intro w' hR; have hc := (bcell hR.1).1; clear hR; go_simp; (try go_bits); exact rfl)); go_simp; (try go_bits); refine hK _ ?_; clear hK K))
  iterate 2 ((refine flowU_readE rfl rfl (fun K hK => ?_); apply Exists.intro; apply And.intro; (focus (intro w' hR; have hc := (bcell hR.1).1; clear hR; go_simp; (try go_bits); exact rfl)); go_simp; (try go_bits); refine hK _ ?_; clear hK K))
  iterate 3 (first | (refine flowU_skip rfl (fun K hK => ?_); go_simp; (try go_bits); refine hK _ ?_; clear hK K) | (refine flowU_readE rfl rfl (fun K hK => ?_); apply Exists.intro; apply And.intro; (focus (intro w' hR; have hc := (bcell hR.1).1; clear hR; go_simp; (try go_bits); exact rfl)); go_simp; (try go_bits); refine hK _ ?_; clear hK K))
  iterate 2 ((refine flowU_readE rfl rfl (fun K hK => ?_); apply Exists.intro; apply And.intro; (focus (intro w' hR; have hc := (bcell hR.1).1; clear hR; go_simp; (try go_bits); exact rfl)); go_simp; (try go_bits); refine hK _ ?_; clear hK K))
  iterate 3 (first | (refine flowU_skip rfl (fun K hK => ?_); go_simp; (try go_bits); refine hK _ ?_; clear hK K) | (refine flowU_readE rfl rfl (fun K hK => ?_); apply Exists.intro; apply And.intro; (focus (intro w' hR; have hc := (bcell hR.1).1; clear hR; go_simp; (try go_bits); exact rfl)); go_simp; (try go_bits); refine hK _ ?_; clear hK K))
  iterate 2 ((refine flowU_readE rfl rfl (fun K hK => ?_); apply Exists.intro; apply And.intro; (focus (intro w' hR; have hc := (bcell hR.1).1; clear hR; go_simp; (try go_bits); exact rfl)); go_simp; (try go_bits); refine hK _ ?_; clear hK K))
  iterate 3 (first | (refine flowU_skip rfl (fun K hK => ?_); go_simp; (try go_bits); refine hK _ ?_; clear hK K) | (refine flowU_readE rfl rfl (fun K hK => ?_); apply Exists.intro; apply And.intro; (focus (intro w' hR; have hc := (bcell hR.1).1; clear hR; go_simp; (try go_bits); exact rfl)); go_simp; (try go_bits); refine hK _ ?_; clear hK K))
  iterate 2 ((refine flowU_readE rfl rfl (fun K hK => ?_); apply Exists.intro; apply And.intro; (focus (intro w' hR; have hc := (bcell hR.1).1; clear hR; go_simp; (try go_bits); exact rfl)); go_simp; (try go_bits); refine hK _ ?_; clear hK K))
  first | (refine flowU_skip rfl (fun K hK => ?_); go_simp; (try go_bits); refine hK _ ?_; clear hK K) | (refine flowU_lateE rfl rfl (fun K hK => ?_); apply Exists.intro; apply And.intro; (focus (intro s0 w' hC hR; have hc := (bcell hR.1).1; clear hR; go_simp; (try go_bits); exact rfl)); go_simp; (try go_bits); refine hK _ ?_; clear hK K)
  iterate 3 (first | (refine flowU_skip rfl (fun K hK => ?_); go_simp; (try go_bits); refine hK _ ?_; clear hK K) | (refine flowU_readE rfl rfl (fun K hK => ?_); apply Exists.intro; apply And.intro; (focus (intro w' hR; have hc := (bcell hR.1).1; clear hR; go_simp; (try go_bits); exact rfl)); go_simp; (try go_bits); refine hK _ ?_; clear hK K))
  refine flowU_step (fun u s => u = .agg #[.int .u64 (lb vC 0 : Nat), .int .u64 (lb vC 1 : Nat), .int .u64 (lb vC 2 : Nat), .int .u64 (lb vC 3 : Nat)] ∧ s = none) (by decide) rfl ⟨_, none, rfl, rfl⟩ (fun w' hR => ?_) (fun _ _ _ _ _ => trivial) (fun K hK v s2 hs2 => ?_)
  focus
    obtain ⟨hb, _⟩ := hR
    have cM := cBr w' hb
    go_simp
    refine cM.mono ?_
    rintro e w3 ⟨rfl, hb3⟩
    exact ⟨_, rfl, none, ⟨rfl, rfl⟩, hb.trans (hb3.mono hb.size), trivial⟩
  obtain ⟨rfl, rfl⟩ := hs2
  (go_simp; refine hK _ _ ?_; clear hK K)
  first | (refine flowU_skip rfl (fun K hK => ?_); go_simp; (try go_bits); refine hK _ ?_; clear hK K) | (refine flowU_readE rfl rfl (fun K hK => ?_); apply Exists.intro; apply And.intro; (focus (intro w' hR; have hc := (bcell hR.1).1; clear hR; go_simp; (try go_bits); exact rfl)); go_simp; (try go_bits); refine hK _ ?_; clear hK K)
  iterate 2 ((refine flowU_readE rfl rfl (fun K hK => ?_); apply Exists.intro; apply And.intro; (focus (intro w' hR; have hc := (bcell hR.1).1; clear hR; go_simp; (try go_bits); exact rfl)); go_simp; (try go_bits); refine hK _ ?_; clear hK K))
  first | (refine flowU_skip rfl (fun K hK => ?_); go_simp; (try go_bits); refine hK _ ?_; clear hK K) | (refine flowU_readE rfl rfl (fun K hK => ?_); apply Exists.intro; apply And.intro; (focus (intro w' hR; have hc := (bcell hR.1).1; clear hR; go_simp; (try go_bits); exact rfl)); go_simp; (try go_bits); refine hK _ ?_; clear hK K)
  refine flowU_step (fun v s => v = .int .i64 (R.length : Nat) ∧ s = none) (by decide) rfl ⟨_, none, rfl, rfl⟩ (fun w' hR => ?_) (fun _ _ _ _ _ => trivial) (fun K hK v s2 hs2 => ?_)
  focus
    obtain ⟨hb, _⟩ := hR
    have cM := cMa w' hb
    go_simp
    refine cM.mono ?_
    rintro e w3 ⟨rfl, hb3⟩
    exact ⟨_, rfl, none, ⟨rfl, rfl⟩, hb.trans (hb3.mono hb.size), trivial⟩
  obtain ⟨rfl, rfl⟩ := hs2
  (go_simp; refine hK _ _ ?_; clear hK K)
  first | (refine flowU_skip rfl (fun K hK => ?_); go_simp; (try go_bits); refine hK _ ?_; clear hK K) | (refine flowU_lateE rfl rfl (fun K hK => ?_); apply Exists.intro; apply And.intro; (focus (intro s0 w' hC hR; have hc := (bcell hR.1).1; clear hR; go_simp; (try go_bits); exact rfl)); go_simp; (try go_bits); refine hK _ ?_; clear hK K)
  first | (refine flowU_skip rfl (fun K hK => ?_); go_simp; (try go_bits); refine hK _ ?_; clear hK K) | (refine flowU_readE rfl rfl (fun K hK => ?_); apply Exists.intro; apply And.intro; (focus (intro w' hR; have hc := (bcell hR.1).1; clear hR; go_simp; (try go_bits); exact rfl)); go_simp; (try go_bits); refine hK _ ?_; clear hK K)
  iterate 2 ((refine flowU_readE rfl rfl (fun K hK => ?_); apply Exists.intro; apply And.intro; (focus (intro w' hR; have hc := (bcell hR.1).1; clear hR; go_simp; (try go_bits); exact rfl)); go_simp; (try go_bits); refine hK _ ?_; clear hK K))
  first | (refine flowU_skip rfl (fun K hK => ?_); go_simp; (try go_bits); refine hK _ ?_; clear hK K) | (refine flowU_lateE rfl rfl (fun K hK => ?_); apply Exists.intro; apply And.intro; (focus (intro s0 w' hC hR; have hc := (bcell hR.1).1; clear hR; go_simp; (try go_bits); exact rfl)); go_simp; (try go_bits); refine hK _ ?_; clear hK K)
  first | (refine flowU_skip rfl (fun K hK => ?_); go_simp; (try go_bits); refine hK _ ?_; clear hK K) | (refine flowU_readE rfl rfl (fun K hK => ?_); apply Exists.intro; apply And.intro; (focus (intro w' hR; have hc := (bcell hR.1).1; clear hR; go_simp; (try go_bits); exact rfl)); go_simp; (try go_bits); refine hK _ ?_; clear hK K)
  refine flowU_step (fun v s => s = some v) (by decide) rfl ⟨.slice none 0 0, _, rfl⟩ (fun w' hR => ?_) (fun _ _ _ _ _ => trivial) (fun K hK v s2 hs2 => ?_)
  focus
    obtain ⟨hb, _⟩ := hR
    have cM := cLo w' hb
    go_simp
    refine cM.mono ?_
    rintro e w3 ⟨lv3, rfl, hlv3, hb3⟩
    exact ⟨_, rfl, hb.trans (hb3.mono hb.size), hlv3⟩
  obtain rfl := hs2
  (go_simp; refine hK _ _ ?_; clear hK K)
  refine flowU_step (fun v s => v = .bool true ∧ s = none) (by decide) rfl ⟨_, none, rfl, rfl⟩ (fun w' hR => ?_) (fun _ _ _ _ _ => trivial) (fun K hK v s2 hs2 => ?_)
  focus
    obtain ⟨hb, hlv3⟩ := hR
    have cM := cSa w' _ hb hlv3
    go_simp
    refine cM.mono ?_
    rintro e w3 ⟨rfl, hb3⟩
    exact ⟨_, rfl, none, ⟨rfl, rfl⟩, hb.trans (hb3.mono hb.size), trivial⟩
  obtain ⟨rfl, rfl⟩ := hs2
  (go_simp; refine hK _ _ ?_; clear hK K)
  iterate 2 ((refine flowU_readE rfl rfl (fun K hK => ?_); apply Exists.intro; apply And.intro; (focus (intro w' hR; have hc := (bcell hR.1).1; clear hR; go_simp; (try go_bits); exact rfl)); go_simp; (try go_bits); refine hK _ ?_; clear hK K))
  refine flowU_nil ?_
  intro w16 hR16
  have hbF : Below W.heap.size W w16 := b0.trans ((hT15.bel.trans (hR16.1.mono zbl)).mono zb0)
  clear hR16
  go_wp2
  go_ret
  exact ⟨rfl, hbF⟩

set_option maxRecDepth 100000 in
set_option maxHeartbeats 64000000 in
/-- The middle: asking, and the second script. -/
theorem back_mid {W wa : World} {b q : Nat} {L : List Kw} {lv : Value} (b0 : Below W.heap.size W wa) (zb0 : W.heap.size ≤ wa.heap.size) (hB0 : Bas wa L lv) {a : ByteArray} {k : Nat} (ha : okT a) (hk : k < Q256) (key0 : wa.heap[W.heap.size]? = some (.cells #[.int .u64 (lb k 0 : Nat), .int .u64 (lb k 1 : Nat), .int .u64 (lb k 2 : Nat), .int .u64 (lb k 3 : Nat)] 25 (0, 0))) (hk0 : W.heap.size < wa.heap.size) {oa2 : Option Addr} {oc2 : Nat} {ops2 : List Opx} (ho2 : opL W (.slice oa2 ops2.length oc2) ops2) (hox2 : ∀ x ∈ ops2, x.ok) (hl_ops2 : ops2.length ≤ 9223372036854775807) (u0 u1 u4 u10 u14 u28 u29 u30 u31 u32 u33 u34 u35 u36 u37 u38 u39 u40 u41 u42 u43 u44 u45 u46 u47 u48 u49 u50 u51 u52 u53 u54 : Value) {wr : World} {i : Nat} (hi40 : i ≤ 40) (hI : baI wa b q L lv i wr) :
    Code.wp Tryd.prog (sqC (sqC (sqC (sqC (sqC (sqC (Tryd.f7.body.getD Code.skip))))))) (bodyPost Tryd.prog Tryd.f7 fun e w' => e = .returned (.bool true) ∧ Below W.heap.size W w') ⟨#[u0, u1, .slice oa2 ops2.length oc2, .string a, u4, undef, undef, undef, undef, .pointer (some ⟨W.heap.size, 0, none⟩), u10, .bool true, .pointer (some ⟨b + 6, 0, none⟩), .pointer (some ⟨q, 0, none⟩), u14, undef, undef, undef, undef, undef, undef, undef, undef, undef, undef, undef, undef, undef, u28, u29, u30, u31, u32, u33, u34, u35, u36, u37, u38, u39, u40, u41, u42, u43, u44, u45, u46, u47, u48, u49, u50, u51, u52, u53, u54, undef, undef, undef, undef, undef, undef, undef, undef, undef, undef, undef, undef, undef, undef, undef, undef, undef, undef, undef, undef, undef, undef, undef, undef, undef, undef, undef, undef, undef, undef, undef, undef, undef, undef, undef, undef, undef, undef, undef, undef, undef, undef, undef, undef, undef, undef, undef, undef, undef, undef, undef, undef, undef, undef, undef, undef, undef, undef, undef, undef, undef, undef, undef, undef, undef, undef, undef, undef, undef, undef, undef, undef, undef, undef, undef, undef, undef, undef, undef, undef, undef, undef, undef, undef, undef, undef, undef, undef, undef, undef, undef, undef, undef, undef, undef, undef, undef, undef, undef, undef, undef, undef, undef, undef, undef, undef], []⟩ wr := by
  show Code.wp Tryd.prog (Code.seq _ _) _ _ _
  obtain ⟨F, G, N, R, hD⟩ := hI
  have hRl := hD.len
  have hR9 : R.length ≤ 40 := by omega
  have hpl := hD.pl
  obtain ⟨vA, hvA⟩ : ∃ vA, vA = balN L R a := ⟨_, rfl⟩
  obtain ⟨vB, hvB⟩ : ∃ vB, vB = (loaN L R a k).1 := ⟨_, rfl⟩
  obtain ⟨vC, hvC⟩ : ∃ vC, vC = (brF R (a, k)).getD 0 := ⟨_, rfl⟩
  obtain ⟨eA, heA⟩ : ∃ eA, eA = kerr L a := ⟨_, rfl⟩
  obtain ⟨eB, heB⟩ : ∃ eB, eB = (loaN L R a k).2 := ⟨_, rfl⟩
  have cAll : ∀ (w : World) (F G : Nat → Prop) (N : Nat) (Q : List Chg), Two wa w F G b q N L lv R Q → Calls Tryd.prog 11 #[ptr (b + 6), .string a] w (fun e w' => e = .returned (.tuple #[W4 vA, .int .i64 eA]) ∧ Below w.heap.size w w') ∧
      Calls Tryd.prog 14 #[ptr (b + 6), .string a, W4 k] w (fun e w' => e = .returned (.tuple #[W4 vB, .int .i64 eB]) ∧ Below w.heap.size w w') ∧
      Calls Tryd.prog 16 #[ptr (b + 6), .string a, W4 k] w (fun e w' => e = .returned (W4 vC) ∧ Below w.heap.size w w')   := fun w F G N Q hT2 => by
    rw [hvA, hvB, hvC, heA, heB]
    exact ⟨Balance_S hT2.s ha, Load_all hT2.s (hB0.below hT2.bel).sz (hB0.below hT2.bel).kt (hB0.below hT2.bel).ok ⟨ha, hk⟩, Brief_S hT2.s ⟨ha, hk⟩⟩
  have CA := Lib.hid cAll
  clear cAll hvA hvB hvC heA heB
  go_wp2_with (first | (go_at_call 17; refine (Mark_S hD.two.s).mono ?_; rintro e w6 ⟨rfl, hb6⟩; have hD6 := hD.below hb6) | (go_at_call 18; refine (Logs_new hD6.two.s (by omega)).mono ?_; rintro e w7 ⟨la, lc, rfl, hlv, hb7, hfr⟩; have hD7 := hD6.below hb7; have hL7 : Lx w7 F G la lc (lgF R) := ⟨hlv, fun p hp => ⟨(hfr p hp).2, fun hf => (by have := hD6.two.s.flt _ hf; have := (hfr p hp).1; omega), fun hf => (by have := hD6.two.r.glt _ hf; have := (hfr p hp).1; omega)⟩⟩) | (go_at_call 11; refine (CA.out _ _ _ _ _ hD7.two).1.mono ?_; rintro e w8 ⟨rfl, hb8⟩; have hD8 := hD7.below hb8; have key8 := (hD8.two.bel.block _ hk0).trans key0; obtain ⟨u0, u1, u2, u3⟩ := cells4w key8; have z8 := hD8.two.bel.size; have z8' : W.heap.size < w8.heap.size := (by omega)) | (go_at_call 14; refine (CA.out _ _ _ _ _ (hD8.below ((Below.refl _ w8).alloc (Nat.le_refl _) _)).two).2.1.mono ?_; rintro e w9 ⟨rfl, hb9⟩; have hb89 := ((Below.refl _ w8).alloc (Nat.le_refl _) _).trans (hb9.mono (by simp)); have hD9 := hD8.below hb89; have hA9 : Bx w9 F G w8.heap.size vA := ⟨fun hf => (by have := hD8.two.s.flt _ hf; omega), fun hf => (by have := hD8.two.r.glt _ hf; omega), (hb9.block _ (by simp)).trans (heap_new rfl)⟩; have key9 := (hD9.two.bel.block _ hk0).trans key0; obtain ⟨u0, u1, u2, u3⟩ := cells4w key9; have z9' : W.heap.size < w9.heap.size := (by have := hD9.two.bel.size; omega)) | (go_at_call 16; refine (CA.out _ _ _ _ _ (hD9.below ((Below.refl _ w9).alloc (Nat.le_refl _) _)).two).2.2.mono ?_; rintro e w10 ⟨rfl, hb10⟩; have hb910 := ((Below.refl _ w9).alloc (Nat.le_refl _) _).trans (hb10.mono (by simp)); have hD10 := hD9.below hb910; have hB10 : Bx w10 F G w9.heap.size vB := ⟨fun hf => (by have := hD9.two.s.flt _ hf; omega), fun hf => (by have := hD9.two.r.glt _ hf; omega), (hb10.block _ (by simp)).trans (heap_new rfl)⟩))
  have hbC : Below w10.heap.size w10 (w10.alloc (.cells #[.int .u64 (lb vC 0 : Nat), .int .u64 (lb vC 1 : Nat), .int .u64 (lb vC 2 : Nat), .int .u64 (lb vC 3 : Nat)] 25)) := (Below.refl _ w10).alloc (Nat.le_refl _) _
  have hC11 : Bx (w10.alloc (.cells #[.int .u64 (lb vC 0 : Nat), .int .u64 (lb vC 1 : Nat), .int .u64 (lb vC 2 : Nat), .int .u64 (lb vC 3 : Nat)] 25)) F G w10.heap.size vC := ⟨fun hf => (by have := hD10.two.s.flt _ hf; omega), fun hf => (by have := hD10.two.r.glt _ hf; omega), heap_new rfl⟩
  have hI2 : bbI wa b q L lv R w8.heap.size w9.heap.size w10.heap.size vA vB vC la lc 0 (w10.alloc (.cells #[.int .u64 (lb vC 0 : Nat), .int .u64 (lb vC 1 : Nat), .int .u64 (lb vC 2 : Nat), .int .u64 (lb vC 3 : Nat)] 25)) := ⟨F, G, N, R, (hD10.below hbC).up (by omega), .refl R, (hA9.below hb910).below hbC, hB10.below hbC, hC11, ((hL7.kp ((Kp.refl _ _ _).below (hb8.trans ((hb89.trans ((hb910.trans (hbC.mono hb910.size)).mono hb89.size)).mono hb8.size)))))⟩
  clear hD6 hD7 hD8 hD9 hD10 hb6 hb7 hb8 hb9 hb10 hb89 hb910 hbC hC11 hA9 hB10 hL7 hlv hfr u0 u1 u2 u3 key8 key9 z8 z8' z9' hD
  generalize w10.alloc (.cells #[.int .u64 (lb vC 0 : Nat), .int .u64 (lb vC 1 : Nat), .int .u64 (lb vC 2 : Nat), .int .u64 (lb vC 3 : Nat)] 25) = w11 at *
  generalize w8.heap.size = pA at *
  generalize w9.heap.size = pB at *
  generalize w10.heap.size = pC at *
  go_loopw [22] (fun v wr => ∃ j : Nat, j ≤ ops2.length ∧ j ≤ 40 ∧ v = .int .i64 (j : Nat) ∧ bbI wa b q L lv R pA pB pC vA vB vC la lc j wr) (fun v _ => ops2.length - (intOf v).toNat)
  case atStart => exact ⟨0, Nat.zero_le _, Nat.zero_le _, rfl, hI2⟩
  case round =>
    rename ∀ (a : Act) (w : World), Code.wp _ _ _ a w → _ => hKx
    have HK2 := fun (j : Nat) (wr : World) (hj40 : j ≤ 40) (hI2 : bbI wa b q L lv R pA pB pC vA vB vC la lc j wr) (u0 u1 u2 u4 u10 u13 u14 u22 u28 u29 u30 u31 u32 u33 u34 u35 u36 u37 u38 u39 u40 u41 u42 u43 u44 u45 u46 u47 u48 u49 u50 u51 u52 u53 u54 u55 u56 u57 u58 u59 u60 u61 u62 u63 u64 u65 u66 u67 u68 u69 u70 u71 u72 u73 u74 u75 u76 u77 u78 u79 u80 u81 u82 u83 u84 u85 u86 u87 u88 u89 u90 u91 u92 u93 u94 u95 u96 u97 u98 u99 : Value) => hKx ⟨#[u0, u1, u2, .string a, u4, undef, undef, undef, undef, .pointer (some ⟨W.heap.size, 0, none⟩), u10, .bool true, .pointer (some ⟨b + 6, 0, none⟩), u13, u14, .int .i64 (R.length : Nat), .slice la (lgF R).length lc, .pointer (some ⟨pA, 0, none⟩), .int .i64 eA, .pointer (some ⟨pB, 0, none⟩), .int .i64 eB, .pointer (some ⟨pC, 0, none⟩), u22, undef, undef, undef, undef, undef, u28, u29, u30, u31, u32, u33, u34, u35, u36, u37, u38, u39, u40, u41, u42, u43, u44, u45, u46, u47, u48, u49, u50, u51, u52, u53, u54, u55, u56, u57, u58, u59, u60, u61, u62, u63, u64, u65, u66, u67, u68, u69, u70, u71, u72, u73, u74, u75, u76, u77, u78, u79, u80, u81, u82, u83, u84, u85, u86, u87, u88, u89, u90, u91, u92, u93, u94, u95, u96, u97, u98, u99, undef, undef, undef, undef, undef, undef, undef, undef, undef, undef, undef, undef, undef, undef, undef, undef, undef, undef, undef, undef, undef, undef, undef, undef, undef, undef, undef, undef, undef, undef, undef, undef, undef, undef, undef, undef, undef, undef, undef, undef, undef, undef, undef, undef, undef, undef, undef, undef, undef, undef, undef, undef, undef, undef, undef, undef, undef, undef, undef, undef, undef], []⟩ wr (back_fin b0 zb0 hB0 ha hk key0 hk0 hR9 hpl CA u0 u1 u2 u4 u10 u13 u14 u22 u28 u29 u30 u31 u32 u33 u34 u35 u36 u37 u38 u39 u40 u41 u42 u43 u44 u45 u46 u47 u48 u49 u50 u51 u52 u53 u54 u55 u56 u57 u58 u59 u60 u61 u62 u63 u64 u65 u66 u67 u68 u69 u70 u71 u72 u73 u74 u75 u76 u77 u78 u79 u80 u81 u82 u83 u84 u85 u86 u87 u88 u89 u90 u91 u92 u93 u94 u95 u96 u97 u98 u99 hj40 hI2)
    clear hKx
    obtain ⟨j, hj, hj40, rfl, F2, G2, N2, R2, hD2, hO, hA2, hB2, hC2, hL2⟩ := hrel
    have hBr : Below W.heap.size W wr := b0.trans (hD2.two.bel.mono zb0)
    by_cases hl2 : j < ops2.length
    · by_cases h40 : j < 40
      · obtain ⟨x, hx⟩ : ∃ x, ops2[j]? = some x := ⟨_, List.getElem?_eq_getElem hl2⟩
        have hxk := hox2 x (List.mem_of_getElem? hx)
        obtain ⟨gb, go, rfl, hg⟩ : ∃ gb go, oa2 = some ⟨gb, go, none⟩ ∧ ∀ m u, x.v.cells[m]? = some u → W.cell? ⟨gb, go + j * 12 + m, none⟩ = some u := by
          obtain ⟨a2, c2, hvv, _, _, h3⟩ := ho2
          obtain ⟨bb, oo, e, h⟩ := h3 j x hx
          obtain ⟨rfl, rfl⟩ : oa2 = a2 ∧ oc2 = c2 := by simpa using hvv
          exact ⟨bb, oo, e, h⟩
        have hgl : gb < W.heap.size := cell_lt (hg 0 _ rfl)
        have hg2 := fun m u hu => (hBr.cell (p := ⟨gb, go + j * 12 + m, none⟩) hgl).trans (hg m u hu)
        have g0 : _ = some (Value.int .i64 x.ki) := hg2 0 _ rfl
        have g1 : _ = some (Value.string x.a) := hg2 1 _ rfl
        have g2 : _ = some (Value.string x.b) := hg2 2 _ rfl
        have g3 : _ = some (Value.int .u64 (lb x.ke 0 : Nat)) := hg2 3 _ rfl
        have g4 : _ = some (Value.int .u64 (lb x.ke 1 : Nat)) := hg2 4 _ rfl
        have g5 : _ = some (Value.int .u64 (lb x.ke 2 : Nat)) := hg2 5 _ rfl
        have g6 : _ = some (Value.int .u64 (lb x.ke 3 : Nat)) := hg2 6 _ rfl
        have g7 : _ = some (Value.int .u64 (lb x.va 0 : Nat)) := hg2 7 _ rfl
        have g8 : _ = some (Value.int .u64 (lb x.va 1 : Nat)) := hg2 8 _ rfl
        have g9 : _ = some (Value.int .u64 (lb x.va 2 : Nat)) := hg2 9 _ rfl
        have g10 : _ = some (Value.int .u64 (lb x.va 3 : Nat)) := hg2 10 _ rfl
        have g11 : _ = some (Value.int .i64 x.n) := hg2 11 _ rfl
        rw [Nat.add_zero] at g0
        clear hg hg2
        have cP := pick_any x.ki hxk.ki
        have cD := does_D hB0 hD2 (by omega) x hxk
        have hOn := fun h => hO.stp (L := L) x (k := pkN x.ki) h
        generalize pkN x.ki = pk at *
        unfold ptr Opx.v at cD
        clear hx hxk
        by_cases h12 : pk = 12
        · subst h12
          clear hOn cD
          go_wp2_with (go_at_call 30; refine (cP _).mono ?_; rintro e w' ⟨rfl, rfl⟩)
          go_roundw
          case rel => exact ⟨j + 1, by omega, by omega, by go_num, F2, G2, N2, R2, hD2.up (by omega), hO, hA2, hB2, hC2, hL2⟩
          case measure => simp [intOf]; omega
        · have n12 : (pk == 12) = false := by simpa using h12
          replace hOn := hOn h12
          go_wp2_with (first | (go_at_call 30; refine (cP _).mono ?_; rintro e w' ⟨rfl, rfl⟩) | (go_at_call 27; refine cD.mono ?_; rintro e w5 ⟨rfl, F', G', N', hD', hK'⟩))
          go_roundw
          case rel => exact ⟨j + 1, by omega, by omega, by go_num, F', G', N', _, hD', hOn, hA2.kp hK', hB2.kp hK', hC2.kp hK', hL2.kp hK'⟩
          case measure => simp [intOf]; omega
      · obtain rfl : j = 40 := by omega
        go_wp2
        exact HK2 40 _ hj40 ⟨F2, G2, N2, R2, hD2, hO, hA2, hB2, hC2, hL2⟩ _ _ _ _ _ _ _ _ _ _ _ _ _ _ _ _ _ _ _ _ _ _ _ _ _ _ _ _ _ _ _ _ _ _ _ _ _ _ _ _ _ _ _ _ _ _ _ _ _ _ _ _ _ _ _ _ _ _ _ _ _ _ _ _ _ _ _ _ _ _ _ _ _ _ _ _ _ _ _ _
    · obtain rfl : j = ops2.length := by omega
      go_wp2
      exact HK2 ops2.length _ hj40 ⟨F2, G2, N2, R2, hD2, hO, hA2, hB2, hC2, hL2⟩ _ _ _ _ _ _ _ _ _ _ _ _ _ _ _ _ _ _ _ _ _ _ _ _ _ _ _ _ _ _ _ _ _ _ _ _ _ _ _ _ _ _ _ _ _ _ _ _ _ _ _ _ _ _ _ _ _ _ _ _ _ _ _ _ _ _ _ _ _ _ _ _ _ _ _ _ _ _ _ _

set_option maxRecDepth 100000 in
set_option maxHeartbeats 64000000 in
theorem walk_back {W : World} {sa oa oa2 : Option Addr} {sc oc oc2 : Nat} {L0 : List Kw} {ops ops2 : List Opx} (hv : knL W (.slice sa L0.length sc) L0) (hok : ∀ K ∈ L0, Kok W K ∧ okT K.ad) (ho : opL W (.slice oa ops.length oc) ops) (hox : ∀ x ∈ ops, x.ok) (ho2 : opL W (.slice oa2 ops2.length oc2) ops2) (hox2 : ∀ x ∈ ops2, x.ok)
    (a : ByteArray) (ha : okT a) (k : Nat) (hk : k < Q256) (hW : 3 ≤ W.heap.size) (hT : KT W) :
    Calls Tryd.prog 7 #[.slice sa L0.length sc, .slice oa ops.length oc, .slice oa2 ops2.length oc2, .string a, W4 k] W fun e w' => e = .returned (.bool true) ∧ Below W.heap.size W w' := by
  have hv2 := knL_take hv 30
  obtain ⟨L, hLd⟩ : ∃ L, L = L0.take 30 := ⟨_, rfl⟩
  rw [← hLd] at hv2
  have hln : L.length ≤ 30 := by rw [hLd, List.length_take]; omega
  have hokL : ∀ K ∈ L, Kok W K ∧ okT K.ad := fun K hK => hok K (List.mem_of_mem_take (hLd ▸ hK))
  have hn0 : L0.length ≤ sc ∧ sc ≤ maxLen := by
    obtain ⟨_, _, h, h1, h2, _⟩ := hv
    simp only [Value.slice.injEq] at h
    obtain ⟨-, -, rfl⟩ := h
    exact ⟨h1, h2⟩
  unfold maxLen at hn0
  obtain ⟨hn1, hn2⟩ := hn0
  have hn3 : L0.length ≤ 9223372036854775807 := by omega
  have hmin : min (L0.length : Int) 30 = (L.length : Int) := by rw [hLd, List.length_take]; omega
  have hls2 : L.length ≤ sc := by rw [hLd, List.length_take]; omega
  clear hLd hok hv
  have hl_ops : ops.length ≤ 9223372036854775807 := by
    obtain ⟨_, _, hh, h1, h2, _⟩ := ho
    simp only [Value.slice.injEq] at hh
    obtain ⟨-, -, rfl⟩ := hh
    unfold maxLen at h2
    omega
  have hl_ops2 : ops2.length ≤ 9223372036854775807 := by
    obtain ⟨_, _, hh, h1, h2, _⟩ := ho2
    simp only [Value.slice.injEq] at hh
    obtain ⟨-, -, rfl⟩ := hh
    unfold maxLen at h2
    omega
  have b0' : Below W.heap.size W (W.alloc (.cells #[.int .u64 (lb k 0 : Nat), .int .u64 (lb k 1 : Nat), .int .u64 (lb k 2 : Nat), .int .u64 (lb k 3 : Nat)] 25)) := (Below.refl _ _).alloc (Nat.le_refl _) _
  go_enter Tryd.func7, Tryd.ntmps7
  go_wp2_with (go_at_call 9; refine (shown_any _).mono ?_; rintro e wa ⟨rfl, hb⟩)
  have b0 := b0'.trans (hb.mono b0'.size)
  have zb0 := b0.size
  have cN := New_any (hv2.below b0) (by omega) (fun K hK => (hokL K hK).2)
  go_wp2_with (go_at_call 10; refine cN.mono ?_; rintro e w1 ⟨rfl, hb1, hS⟩)
  have cR := New_R ((hv2.below b0).below hb1) (by omega)
  unfold ptr
  go_wp2_with (go_at_call 25; refine cR.mono ?_; rintro e w2 ⟨rfl, hb2, hRR⟩)
  have hW3 : 3 ≤ wa.heap.size := Nat.le_trans hW b0.size
  have hB0 : Bas wa L (.slice sa L.length sc) := ⟨hW3, hT.below b0 hW, fun K hK => (hokL K hK).1.below b0, hv2.below b0⟩
  have hD := Das.init (by omega) hb1 hS hb2 hRR
  have hKT := fun K hK => (hokL K hK).2
  unfold ptr
  have key0 : wa.heap[W.heap.size]? = some (.cells #[.int .u64 (lb k 0 : Nat), .int .u64 (lb k 1 : Nat), .int .u64 (lb k 2 : Nat), .int .u64 (lb k 3 : Nat)] 25 (0, 0)) := (hb.block _ (by simp)).trans (heap_new rfl)
  have hk0 : W.heap.size < wa.heap.size := (Array.getElem?_eq_some_iff.1 key0).1
  have hI0 : baI wa wa.heap.size w1.heap.size L (.slice sa L.length sc) 0 w2 := ⟨_, _, _, _, hD⟩
  clear hD hRR hS hb1 hb2 cN cR hv2 hb b0'
  generalize w1.heap.size = q at *
  obtain ⟨b, hbd⟩ : ∃ b, b = wa.heap.size := ⟨_, rfl⟩
  rw [← hbd] at hI0
  rw [← hbd]
  clear hbd
  go_wp2
  go_loopw [14] (fun v wr => ∃ i : Nat, i ≤ ops.length ∧ i ≤ 40 ∧ v = .int .i64 (i : Nat) ∧ baI wa b q L (.slice sa L.length sc) i wr) (fun v _ => ops.length - (intOf v).toNat)
  case atStart => exact ⟨0, Nat.zero_le _, Nat.zero_le _, rfl, hI0⟩
  case round =>
    rename ∀ (a : Act) (w : World), Code.wp _ _ _ a w → _ => hKx
    have HK := fun (i : Nat) (wr : World) (hi40 : i ≤ 40) (hI : baI wa b q L (.slice sa L.length sc) i wr) (u0 u1 u4 u10 u14 u28 u29 u30 u31 u32 u33 u34 u35 u36 u37 u38 u39 u40 u41 u42 u43 u44 u45 u46 u47 u48 u49 u50 u51 u52 u53 u54 : Value) => hKx ⟨#[u0, u1, .slice oa2 ops2.length oc2, .string a, u4, undef, undef, undef, undef, .pointer (some ⟨W.heap.size, 0, none⟩), u10, .bool true, .pointer (some ⟨b + 6, 0, none⟩), .pointer (some ⟨q, 0, none⟩), u14, undef, undef, undef, undef, undef, undef, undef, undef, undef, undef, undef, undef, undef, u28, u29, u30, u31, u32, u33, u34, u35, u36, u37, u38, u39, u40, u41, u42, u43, u44, u45, u46, u47, u48, u49, u50, u51, u52, u53, u54, undef, undef, undef, undef, undef, undef, undef, undef, undef, undef, undef, undef, undef, undef, undef, undef, undef, undef, undef, undef, undef, undef, undef, undef, undef, undef, undef, undef, undef, undef, undef, undef, undef, undef, undef, undef, undef, undef, undef, undef, undef, undef, undef, undef, undef, undef, undef, undef, undef, undef, undef, undef, undef, undef, undef, undef, undef, undef, undef, undef, undef, undef, undef, undef, undef, undef, undef, undef, undef, undef, undef, undef, undef, undef, undef, undef, undef, undef, undef, undef, undef, undef, undef, undef, undef, undef, undef, undef, undef, undef, undef, undef, undef, undef, undef, undef, undef, undef, undef, undef, undef, undef, undef, undef, undef, undef], []⟩ wr (back_mid b0 zb0 hB0 ha hk key0 hk0 ho2 hox2 hl_ops2 u0 u1 u4 u10 u14 u28 u29 u30 u31 u32 u33 u34 u35 u36 u37 u38 u39 u40 u41 u42 u43 u44 u45 u46 u47 u48 u49 u50 u51 u52 u53 u54 hi40 hI)
    clear hKx
    obtain ⟨i, hi, hi60, rfl, hI⟩ := hrel
    by_cases hl : i < ops.length
    · by_cases h60 : i < 40
      · obtain ⟨F, G, N, R, hD⟩ := hI
        have hBr : Below W.heap.size W wr := b0.trans (hD.two.bel.mono zb0)
        obtain ⟨x, hx⟩ : ∃ x, ops[i]? = some x := ⟨_, List.getElem?_eq_getElem hl⟩
        have hxk := hox x (List.mem_of_getElem? hx)
        obtain ⟨gb, go, rfl, hg⟩ : ∃ gb go, oa = some ⟨gb, go, none⟩ ∧ ∀ j u, x.v.cells[j]? = some u → W.cell? ⟨gb, go + i * 12 + j, none⟩ = some u := by
          obtain ⟨a2, c2, hvv, _, _, h3⟩ := ho
          obtain ⟨bb, oo, e, h⟩ := h3 i x hx
          obtain ⟨rfl, rfl⟩ : oa = a2 ∧ oc = c2 := by simpa using hvv
          exact ⟨bb, oo, e, h⟩
        have hgl : gb < W.heap.size := cell_lt (hg 0 _ rfl)
        have hg2 := fun j u hu => (hBr.cell (p := ⟨gb, go + i * 12 + j, none⟩) hgl).trans (hg j u hu)
        have g0 : _ = some (Value.int .i64 x.ki) := hg2 0 _ rfl
        have g1 : _ = some (Value.string x.a) := hg2 1 _ rfl
        have g2 : _ = some (Value.string x.b) := hg2 2 _ rfl
        have g3 : _ = some (Value.int .u64 (lb x.ke 0 : Nat)) := hg2 3 _ rfl
        have g4 : _ = some (Value.int .u64 (lb x.ke 1 : Nat)) := hg2 4 _ rfl
        have g5 : _ = some (Value.int .u64 (lb x.ke 2 : Nat)) := hg2 5 _ rfl
        have g6 : _ = some (Value.int .u64 (lb x.ke 3 : Nat)) := hg2 6 _ rfl
        have g7 : _ = some (Value.int .u64 (lb x.va 0 : Nat)) := hg2 7 _ rfl
        have g8 : _ = some (Value.int .u64 (lb x.va 1 : Nat)) := hg2 8 _ rfl
        have g9 : _ = some (Value.int .u64 (lb x.va 2 : Nat)) := hg2 9 _ rfl
        have g10 : _ = some (Value.int .u64 (lb x.va 3 : Nat)) := hg2 10 _ rfl
        have g11 : _ = some (Value.int .i64 x.n) := hg2 11 _ rfl
        rw [Nat.add_zero] at g0
        clear hg hg2
        have cD := does_D hB0 hD (by omega) x hxk
        unfold ptr Opx.v at cD
        clear hx hxk
        go_wp2_with (go_at_call 27; refine cD.mono ?_; rintro e w5 ⟨rfl, F', G', N', hD', hK'⟩)
        go_roundw
        case rel => exact ⟨i + 1, by omega, by omega, by go_num, F', G', N', _, hD'⟩
        case measure => simp [intOf]; omega
      · obtain rfl : i = 40 := by omega
        go_wp2
        exact HK 40 _ hi60 hI _ _ _ _ _ _ _ _ _ _ _ _ _ _ _ _ _ _ _ _ _ _ _ _ _ _ _ _ _ _ _ _
    · obtain rfl : i = ops.length := by omega
      go_wp2
      exact HK ops.length _ hi60 hI _ _ _ _ _ _ _ _ _ _ _ _ _ _ _ _ _ _ _ _ _ _ _ _ _ _ _ _ _ _ _ _
end Go.Proofs.YtcdjdnbdblpofaaDoor
