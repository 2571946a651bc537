/-
  The digest of a longer text. Conditions: none.
-/
import Derived.Test.YtijidnhaijdfaaaGreatDoorPR6
import Derived.Test.YtijidnhaijdfaaaGreatDoorPR8
import Derived.WalkMore
import Derived.Lib.Hide
import Derived.Test.YtijidnhaijdfaaaGreatDoorPR12
import Derived.Test.YtijidnhaijdfaaaGreatDoorPR23
namespace Go.Proofs.YtijidnhaijdfaaaGreatDoor
open Go.RowKit
attribute [local go_sem] leftBy
set_option linter.unusedSimpArgs false
set_option linter.unusedVariables false



set_option maxRecDepth 100000 in
set_option maxHeartbeats 8000000 in
/-- keccak.Sum. -/
theorem Sum_anyL (v : Value) (s : ByteArray) (hs : s.size ≤ 140737488351232) (w : World) (hw : 3 ≤ w.heap.size) (hT : KT w)
    (cJ : Calls Tryz.prog 20 #[v, .string ⟨#[]⟩] w fun e w' => e = .returned (.string s) ∧ Below w.heap.size w w') :
    Calls Tryz.prog 7 #[v] w fun e w' => e = .returned (.string (digS s)) ∧ Below w.heap.size w w' := by
  have hz1 : (s ++ ⟨#[1]⟩ : ByteArray).size = s.size + 1 := by simp [ByteArray.size_append]; rfl
  have hm1 : (s ++ ⟨#[1]⟩ : ByteArray).size ≤ maxLen := by rw [hz1]; unfold maxLen; omega
  go_enter Tryz.func7, Tryz.ntmps7
  go_wp2
  go_step3
  go_wp2_with (first
    | (go_at_call 20; refine cJ.mono ?_; rintro e wj ⟨rfl, hb_wj⟩)
    | (refine wpList_bytes rfl (.tmp 10) rfl rfl hm1 ?_; intro v0 w0 hown0 hb0))
  replace hown0 := hown0.to (byteAt_one s)
  rw [hz1] at hown0
  clear hm1 hz1
  have hjs := hb_wj.size
  have hb0s := hb0.size
  have hbel0 : Below w.heap.size w w0 := hb_wj.trans (hb0.mono hjs)
  generalize wj.heap.size = B at *
  clear hb0
  go_loopw [3] (fun v wr => ∃ n : Nat, s.size < n ∧ n ≤ 136 * padN s ∧ ownB wr B v n (padA s) ∧ B ≤ wr.heap.size ∧ Below w.heap.size w wr)
    (fun v _ => 136 * padN s - lenV v)
  case atStart => exact ⟨s.size + 1, by omega, by unfold padN; omega, hown0, hb0s, hbel0⟩
  case round =>
    obtain ⟨n, hn1, hn2, hown, hBs, hbel⟩ := hrel
    obtain ⟨g, cap, rfl, hBg, hgw, hnc, hcm, hrow, hfz, hst⟩ := hown.parts (by omega)
    have hN : 136 * padN s ≤ 140737488351368 := by unfold padN; omega
    by_cases h136 : n % 136 = 0
    · have hi0 : ((n : Nat) : Int) % 136 = 0 := by omega
      have hnN : n = 136 * padN s := by unfold padN at hn2 ⊢; omega
      have co := hrow.cellAt (j := n - 1) (by omega)
      have hfz1 := hfz (n - 1) (by omega)
      have hx1 := u8_xor128 (padA_lt s (n - 1))
      have hrow2 : rowB (wr.setCell ⟨g, n - 1, none⟩ (.int .u8 ((padA s (n - 1) ^^^ 128 : Nat) : Int))) g (136 * padN s) (padF s) := by
        rw [← hnN]
        refine (hst (n - 1) _ (by omega)).to fun k _ => ?_
        unfold padF
        rw [← hnN]
      have hbel2 := hbel.setCell (p := ⟨g, n - 1, none⟩) (show w.heap.size ≤ g by omega) (.int .u8 ((padA s (n - 1) ^^^ 128 : Nat) : Int))
      have hNn : 0 < padN s := by unfold padN; omega
      replace hnN := Lib.hid hnN
      replace hrow2 := Lib.hid hrow2
      replace hbel2 := Lib.hid hbel2
      clear hst hrow hown hfz hbel hown0
      go_wp2
      go_step3
      go_wp2
      rw [← numA25]
      have hgn : g ≠ wr.heap.size := by omega
      have ha3 : 3 ≤ wr.heap.size := by omega
      have hwa : w.heap.size ≤ wr.heap.size := by omega
      generalize ha0 : wr.heap.size = a0 at hgn ha3 hwa ⊢
      replace ha0 := Lib.hid ha0
      clear co hfz1 hx1 hi0 h136
      generalize hNe : padN s = N at *
      replace hNe := Lib.hid hNe
      go_loopw [3] (fun v wr => ∃ q o l c : Nat, q < N ∧ o = 136 * q ∧ l = 136 * (N - q) ∧ l ≤ c ∧ v = .slice (some ⟨g, o, none⟩) l c ∧ rowN .u64 25 62 wr a0 (stF s q) ∧ rowB wr g (136 * N) (padF s) ∧ Below w.heap.size w wr)
        (fun v _ => lenV v)
      case atStart =>
        refine ⟨0, 0, n, cap, hNn, by omega, by have := hnN.out; omega, hnc, rfl, ?_, hrow2.out.alloc _, ?_⟩
        · rw [st_zero]
          exact rowN.new (by rw [← ha0.out]; simp)
        · exact hbel2.out.alloc (by rw [ha0.out] at *; simp; omega) _
      case round =>
        obtain ⟨q, o, l, c, hq, ho, hl, hlc, rfl, hra, hrb, hbel⟩ := hrel
        have hF := st_lt s q
        have hb := fun i => padF_lt s (136 * q + i)
        have hst := Lib.hid (st_succ s q)
        have hl136 : 136 ≤ l := by omega
        have hlN : l ≤ 140737488351368 := by omega
        replace hl := Lib.hid hl
        replace ho := Lib.hid ho
        generalize stF s q = F at *
        go_wp2
        go_loopw [27] (fun v wr => ∃ i : Nat, i ≤ 136 ∧ v = .int .i64 i ∧ rowN .u64 25 62 wr a0 (takeB F (fun i => padF s (136 * q + i)) i) ∧ rowB wr g (136 * N) (padF s) ∧ Below w.heap.size w wr)
          (fun v _ => 136 - (intOf v).toNat)
        case atStart => exact ⟨0, by omega, rfl, by rw [takeB_zero]; exact hra, hrb, hbel⟩
        case round =>
          obtain ⟨i, hi, rfl, hra, hrb, hbel⟩ := hrel
          by_cases h136 : i < 136
          · have h136i : (i : Int) < 136 := by omega
            have hil : (i : Int) < (l : Int) := by omega
            have hi1 : 0 ≤ (i : Int) / 8 := by omega
            have hi2 : (i : Int) / 8 < 25 := by omega
            have hi3 : ((i : Int) / 8).toNat = i / 8 := by omega
            have hi4 : 0 ≤ 8 * ((i : Int) % 8) := by omega
            have hi5 : 8 * ((i : Int) % 8) < 64 := by omega
            have hi6 : (8 * ((i : Int) % 8)).toNat = 8 * (i % 8) := by omega
            have ca := hra.cellAt (j := i / 8) (by omega)
            have fa := hra.free
            have cb := hrb.cellAt (j := o + i) (by have := hl.out; have := ho.out; omega)
            have hbi : padF s (o + i) < 256 := padF_lt s _
            have hx := take_bits (i := i) (takeB_lt hF hb i (i / 8)) hbi
            have htk := Lib.hid (takeB_succ F (fun i => padF s (136 * q + i)) i)
            go_wp2
            first | refine wp_flow (fun k => ([1, 1, 1, 1, 1, 1, 1, 1, 1, 1, 1, 1, 1, 1, 1, 2] : List Nat).getD k 1) Dr _ (Dr.next _ _) (by kernel_rfl) (by kernel_rfl) ?_ | refine wp_flow (fun k => ([1, 1, 1, 1, 1, 1, 1, 1, 1, 1, 1, 1, 1, 1, 1, 2] : List Nat).getD k 1) Dr _ (Dr.one _) (by kernel_rfl) (by kernel_rfl) ?_
            iterate 15 ((refine flow_quiet rfl rfl (fun K hK => ?_); apply Exists.intro; apply And.intro; (focus (rintro w' ⟨nn, rfl⟩; go_simp; (try go_bits); exact ⟨rfl, Dr.of _ _⟩)); go_simp; (try go_bits); refine hK _ ?_; clear hK K))
            (refine flow_eff rfl rfl (fun K hK => ?_); apply Exists.intro; apply Exists.intro; apply And.intro; (focus (rintro w' ⟨nn, rfl⟩; go_simp; (try go_bits); refine ⟨rfl, ?_⟩; with_reducible first | exact Dr.store _ _ _ _ | exact Dr.store4 _ _ _ _ _ _ _ _ _ _)); go_simp; (try go_bits); refine hK _ _ ?_; clear hK K)
            refine flow_nil ?_
            rintro w' ⟨nq, rfl⟩
            go_wp2
            go_roundw
            case rel =>
              refine ⟨i + 1, by omega, by go_num, ?_, (hrb.set hgn).drewN _, ?_⟩
              · rw [htk.out]
                refine (hra.store.drewN _).to fun j _ => ?_
                rw [ho.out]
              · skip
                repeat (with_reducible first | exact Below.refl _ _ | assumption | refine below_drewN ?_ _ | refine Below.drew ?_ | refine below_setRow' ?_ (by first | omega | (simp; done) | (simp; omega)) _ | refine Below.setCell ?_ (by first | omega | (simp; done) | (simp; omega)) _ | refine Below.alloc ?_ (by first | omega | (simp; done) | (simp; omega)) _ | refine Below.trans ?_ (Below.mono (by assumption) (by first | omega | (simp; done) | (simp; omega))))
            case measure => simp [intOf]; omega
          · have hmf : decide ((i : Int) < 136) = false := by simp; omega
            obtain rfl : i = 136 := by omega
            have hF2 := takeB_lt hF hb 136
            have hT2 := hT.below hbel hw
            clear hmf h136 hi
            by_cases hlast : q + 1 = N
            · obtain rfl : l = 136 := by have := hl.out; rw [this, show N - q = 1 by omega]
              by_cases hc : c = 136
              · go_wp2_with (go_at_call 21; refine (permute_any a0 _ hF2 _ ha3 hT2 hra).mono ?_; rintro e wp ⟨rfl, hra2, hfr2⟩)
                rw [← numA32]
                have hbel3 : Below w.heap.size w wp := hbel.trans (hfr2.toBelow hbel.size (fun k hk => by omega))
                have hRe : rnds (takeB F (fun i => padF s (136 * q + i)) 136) 24 = stF s N := by rw [← hst.out, hlast]
                rw [hRe] at hra2
                have hRL := st_lt s N
                have hal := hra2.lt
                clear hRe hra hrb hbel
                generalize hR : stF s N = R at hra2 hRL
                replace hR := Lib.hid hR
                have hbs3 := hbel3.size
                generalize ho0 : wp.heap.size = o0 at hal ⊢
                replace ho0 := Lib.hid ho0
                go_loopw [52] (fun v wr => ∃ i : Nat, i ≤ 32 ∧ v = .int .i64 i ∧ rowN .u8 32 65 wr o0 (outN R i) ∧ rowN .u64 25 62 wr a0 R ∧ Below w.heap.size w wr)
                  (fun v _ => 32 - (intOf v).toNat)
                case atStart => exact ⟨0, by omega, rfl, (rowN.new ho0.out.symm).to fun k _ => outN_zero R k, hra2.alloc _, hbel3.alloc hbs3 _⟩
                case round =>
                  obtain ⟨i, hi, rfl, hro, hra, hbel⟩ := hrel
                  by_cases h32 : i < 32
                  · have h32i : (i : Int) < 32 := by omega
                    have hi1 : 0 ≤ (i : Int) / 8 := by omega
                    have hi2 : (i : Int) / 8 < 25 := by omega
                    have hi3 : ((i : Int) / 8).toNat = i / 8 := by omega
                    have hi4 : 0 ≤ 8 * ((i : Int) % 8) := by omega
                    have hi5 : 8 * ((i : Int) % 8) < 64 := by omega
                    have hi6 : (8 * ((i : Int) % 8)).toNat = 8 * (i % 8) := by omega
                    have ca := hra.cellAt (j := i / 8) (by omega)
                    have co := hro.cellAt h32
                    have fo := hro.free
                    have hbb : ((R (i / 8) : Nat) : Int) / 2 ^ (8 * (i % 8)) % 256 = ((outF R i : Nat) : Int) := byte_out R i
                    go_wp2
                    go_roundw
                    case rel =>
                      refine ⟨i + 1, by omega, by go_num, hro.store.to fun k _ => outN_succ R i k, hra.set (by omega), ?_⟩
                      repeat (with_reducible first | exact Below.refl _ _ | assumption | refine below_drewN ?_ _ | refine Below.drew ?_ | refine below_setRow' ?_ (by first | omega | (simp; done) | (simp; omega)) _ | refine Below.setCell ?_ (by first | omega | (simp; done) | (simp; omega)) _ | refine Below.alloc ?_ (by first | omega | (simp; done) | (simp; omega)) _ | refine Below.trans ?_ (Below.mono (by assumption) (by first | omega | (simp; done) | (simp; omega))))
                    case measure => simp [intOf]; omega
                  · have hmf : decide ((i : Int) < 32) = false := by simp; omega
                    obtain rfl : i = 32 := by omega
                    have hro' := hro.to (outN_all R)
                    have hcv := string_of (cap := 32) fun j hj => hro'.cellAt hj
                    clear hro
                    go_wp2
                    rw [Exit.noGoto_ret]
                    go_ret
                    refine ⟨by unfold digS; rw [hNe.out, hR.out]; rfl, ?_⟩
                    repeat (with_reducible first | exact Below.refl _ _ | assumption | refine below_drewN ?_ _ | refine Below.drew ?_ | refine below_setRow' ?_ (by first | omega | (simp; done) | (simp; omega)) _ | refine Below.setCell ?_ (by first | omega | (simp; done) | (simp; omega)) _ | refine Below.alloc ?_ (by first | omega | (simp; done) | (simp; omega)) _ | refine Below.trans ?_ (Below.mono (by assumption) (by first | omega | (simp; done) | (simp; omega))))
              · go_wp2_with (go_at_call 21; refine (permute_any a0 _ hF2 _ ha3 hT2 hra).mono ?_; rintro e wp ⟨rfl, hra2, hfr2⟩)
                rw [← numA32]
                have hbel3 : Below w.heap.size w wp := hbel.trans (hfr2.toBelow hbel.size (fun k hk => by omega))
                have hRe : rnds (takeB F (fun i => padF s (136 * q + i)) 136) 24 = stF s N := by rw [← hst.out, hlast]
                rw [hRe] at hra2
                have hRL := st_lt s N
                have hal := hra2.lt
                clear hRe hra hrb hbel
                generalize hR : stF s N = R at hra2 hRL
                replace hR := Lib.hid hR
                have hbs3 := hbel3.size
                generalize ho0 : wp.heap.size = o0 at hal ⊢
                replace ho0 := Lib.hid ho0
                go_loopw [52] (fun v wr => ∃ i : Nat, i ≤ 32 ∧ v = .int .i64 i ∧ rowN .u8 32 65 wr o0 (outN R i) ∧ rowN .u64 25 62 wr a0 R ∧ Below w.heap.size w wr)
                  (fun v _ => 32 - (intOf v).toNat)
                case atStart => exact ⟨0, by omega, rfl, (rowN.new ho0.out.symm).to fun k _ => outN_zero R k, hra2.alloc _, hbel3.alloc hbs3 _⟩
                case round =>
                  obtain ⟨i, hi, rfl, hro, hra, hbel⟩ := hrel
                  by_cases h32 : i < 32
                  · have h32i : (i : Int) < 32 := by omega
                    have hi1 : 0 ≤ (i : Int) / 8 := by omega
                    have hi2 : (i : Int) / 8 < 25 := by omega
                    have hi3 : ((i : Int) / 8).toNat = i / 8 := by omega
                    have hi4 : 0 ≤ 8 * ((i : Int) % 8) := by omega
                    have hi5 : 8 * ((i : Int) % 8) < 64 := by omega
                    have hi6 : (8 * ((i : Int) % 8)).toNat = 8 * (i % 8) := by omega
                    have ca := hra.cellAt (j := i / 8) (by omega)
                    have co := hro.cellAt h32
                    have fo := hro.free
                    have hbb : ((R (i / 8) : Nat) : Int) / 2 ^ (8 * (i % 8)) % 256 = ((outF R i : Nat) : Int) := byte_out R i
                    go_wp2
                    go_roundw
                    case rel =>
                      refine ⟨i + 1, by omega, by go_num, hro.store.to fun k _ => outN_succ R i k, hra.set (by omega), ?_⟩
                      repeat (with_reducible first | exact Below.refl _ _ | assumption | refine below_drewN ?_ _ | refine Below.drew ?_ | refine below_setRow' ?_ (by first | omega | (simp; done) | (simp; omega)) _ | refine Below.setCell ?_ (by first | omega | (simp; done) | (simp; omega)) _ | refine Below.alloc ?_ (by first | omega | (simp; done) | (simp; omega)) _ | refine Below.trans ?_ (Below.mono (by assumption) (by first | omega | (simp; done) | (simp; omega))))
                    case measure => simp [intOf]; omega
                  · have hmf : decide ((i : Int) < 32) = false := by simp; omega
                    obtain rfl : i = 32 := by omega
                    have hro' := hro.to (outN_all R)
                    have hcv := string_of (cap := 32) fun j hj => hro'.cellAt hj
                    clear hro
                    go_wp2
                    rw [Exit.noGoto_ret]
                    go_ret
                    refine ⟨by unfold digS; rw [hNe.out, hR.out]; rfl, ?_⟩
                    repeat (with_reducible first | exact Below.refl _ _ | assumption | refine below_drewN ?_ _ | refine Below.drew ?_ | refine below_setRow' ?_ (by first | omega | (simp; done) | (simp; omega)) _ | refine Below.setCell ?_ (by first | omega | (simp; done) | (simp; omega)) _ | refine Below.alloc ?_ (by first | omega | (simp; done) | (simp; omega)) _ | refine Below.trans ?_ (Below.mono (by assumption) (by first | omega | (simp; done) | (simp; omega))))
            · have hl1 : 136 < l := by have := hl.out; omega
              have hcn : ¬ c = 136 := by omega
              have hlz : (((l - 136 : Nat) : Int) == 0) = false := by
                rw [beq_eq_false_iff_ne]
                omega
              go_wp2_with (go_at_call 21; refine (permute_any a0 _ hF2 _ ha3 hT2 hra).mono ?_; rintro e wp ⟨rfl, hra2, hfr2⟩)
              go_roundw
              case rel =>
                refine ⟨q + 1, o + 136, l - 136, c - 136, by omega, by have := ho.out; omega, by have := hl.out; omega, by omega, rfl, ?_, hrb.fr hfr2 hgn, ?_⟩
                · rw [hst.out]
                  exact hra2
                · exact hbel.trans (hfr2.toBelow hbel.size (fun k hk => by omega))
              case measure => simp only [lenV]; omega
    · have hi0 : 0 < ((n : Nat) : Int) % 136 := by omega
      go_wp2_with (at_builtin; refine wpList_append_byte rfl (.tmp 16) (.tmp 17) rfl rfl (hown.alloc _) wr.heap.size 0 rfl ?c1 (by omega) (by first | omega | (simp; omega)) ?_)
      case c1 => simp
      intro v' w2 hown' hgrow
      have hown2 := hown'.to fun j _ => padA_more s hn1 j
      have hbel2 := grown_below (hown.alloc _) (hbel.alloc hbel.size _) hjs hgrow
      have hsz2 := hgrow.size
      have hBs2 : B ≤ w2.heap.size := by simp at hsz2; omega
      clear hown' hgrow hsz2 hst hrow hfz
      go_wp2
      go_roundw
      case rel => exact ⟨n + 1, by omega, by unfold padN at hn2 ⊢; omega, hown2, hBs2, hbel2⟩
      case measure =>
        obtain ⟨g', cap', rfl, _⟩ := hown2.parts (by omega)
        simp only [lenV]
        omega
theorem Sum_strsL (v : Value) (xs : List ByteArray) (w : World) (hv : strV w v xs) (hN : xs.length ≤ 140737488355328) (hs : (catB xs).size ≤ 140737488351232) (hw : 3 ≤ w.heap.size) (hT : KT w) :
    Calls Tryz.prog 7 #[v] w fun e w' => e = .returned (.string (digS (catB xs))) ∧ Below w.heap.size w w' := by
  refine Sum_anyL v (catB xs) hs w hw hT ?_
  rcases hv with ⟨a, c, rfl, rfl⟩ | ⟨b, o, c, rfl, hc, h0, hlt, hcell⟩
  · exact (strings_Join_none a c ⟨#[]⟩ w).mono fun e w' ⟨h1, h2⟩ => ⟨h1, h2 ▸ Below.refl _ _⟩
  · have := strings_Join b o c xs ⟨#[]⟩ w hcell hlt hN hc (by
      rw [join_plain, ← catB_size]
      omega)
    rw [join_plain] at this
    exact this
theorem Sum_oneL (s : Bs) (g : Nat) (w : World) (hc : w.cell? ⟨g, 0, none⟩ = some (.string (bsS s))) (hs : s.length ≤ 140737488351232) (hw : 3 ≤ w.heap.size) (hT : KT w) :
    Calls Tryz.prog 7 #[.slice (some ⟨g, 0, none⟩) 1 1] w fun e w' => e = .returned (.string (bsS (dg s))) ∧ Below w.heap.size w w' := by
  have h := Sum_strsL (.slice (some ⟨g, 0, none⟩) 1 1) [bsS s] w (.inr ⟨g, 0, 1, rfl, Nat.le_refl _, Nat.zero_lt_one, lt_of_cell hc, fun j x hj => by
    cases j with
    | zero =>
      obtain rfl : bsS s = x := by simpa using hj
      exact hc
    | succ j => simp at hj⟩) (by simp) (by rw [catB_one, bsS_size]; exact hs) hw hT
  rw [catB_one] at h
  rw [bsS_dg]
  exact h
end Go.Proofs.YtijidnhaijdfaaaGreatDoor
