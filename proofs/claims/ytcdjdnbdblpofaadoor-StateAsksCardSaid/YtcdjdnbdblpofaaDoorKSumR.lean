/-
  The contract of the document's Sum. Conditions: the text is not too long.
-/
import Derived.Test.YtcdjdnbdblpofaaDoorKRound
import Derived.Test.YtcdjdnbdblpofaaDoorKDig
import Derived.Lib.Hide
namespace Go.Proofs.YtcdjdnbdblpofaaDoor
open Go.RowKit
attribute [local go_sem] leftBy
set_option linter.unusedSimpArgs false
set_option linter.unusedVariables false


/-- How long a slice is. -/
def lenW : Value → Nat
  | .slice _ n _ => n
  | _ => 0
theorem byte_outR (f : Nat → Nat) (i : Nat) : ((f (i / 8) : Nat) : Int) / 2 ^ (8 * (i % 8)) % 256 = ((outF f i : Nat) : Int) := byte_bits

theorem store_new (W : World) (g : Nat → Nat) (t : TypeId) : (storeCells ⟨W.heap.size, 0, none⟩ (numA .i64 25 g).toList 0).run Tryd.prog (W.alloc (.cells #[.int .i64 0, .int .i64 0, .int .i64 0, .int .i64 0, .int .i64 0, .int .i64 0, .int .i64 0, .int .i64 0, .int .i64 0, .int .i64 0, .int .i64 0, .int .i64 0, .int .i64 0, .int .i64 0, .int .i64 0, .int .i64 0, .int .i64 0, .int .i64 0, .int .i64 0, .int .i64 0, .int .i64 0, .int .i64 0, .int .i64 0, .int .i64 0, .int .i64 0] t (0, 0))) = .ok () (W.alloc (.cells (numA .i64 25 g) t (0, 0))) := by
  rw [← numA25]
  exact (rowN.storeA (κ := .i64) (m := 25) (t := t) (f := fun _ => 0) g (rowN.new rfl)).trans (congrArg _ (World.setRow_alloc_new W _ _ _))

attribute [local irreducible] padA padN padF stF takeB rnds rndF outF outN strF digS numA byteAt rotF

set_option maxRecDepth 100000 in
set_option maxHeartbeats 8000000 in
/-- The document's Sum. -/
theorem ref_Sum (s : ByteArray) (hs : s.size ≤ 200000) (w : World) :
    Calls Tryd.prog 86 #[.string s] w fun e w' => e = .returned (.string (digS s)) ∧ Below w.heap.size w w' := by
  have hm1 : s.size ≤ maxLen := by unfold maxLen; omega
  go_enter Tryd.func86, Tryd.ntmps86
  go_wp2_with (first
    | (refine wpList_bytes rfl (.tmp 11) rfl rfl hm1 ?_; intro v0 w0 hown0 hb0; have hb0s := hb0.size)
    | (at_builtin; refine wpList_append_byte rfl (.tmp 12) (.tmp 13) rfl rfl (hown0.alloc _) w0.heap.size 1 rfl (by simp) (by omega) (by first | omega | (simp; omega)) ?_; intro v1 w1 hown1 hgrow1))
  replace hown1' := hown1.to fun j hj => padA_one s j hj
  have hbel1 := grown_below (hown0.alloc _) (hb0.alloc hb0s _) (Nat.le_refl _) hgrow1
  clear hown1 hgrow1 hown0 hm1 hb0
  go_loopw [3] (fun v wr => ∃ n : Nat, s.size < n ∧ n ≤ 136 * padN s ∧ ownB wr w.heap.size v n (padA s) ∧ Below w.heap.size w wr)
    (fun v _ => 136 * padN s - lenW v)
  case atStart => exact ⟨s.size + 1, by omega, by unfold padN; omega, hown1', hbel1⟩
  case round =>
    obtain ⟨n, hn1, hn2, hown, hbel⟩ := hrel
    obtain ⟨g, cap, rfl, hBg, hgw, hnc, hcm, hrow, hfz, hst⟩ := hown.parts (by omega)
    have hN : 136 * padN s ≤ 200136 := by unfold padN; omega
    have hBs := hbel.size
    by_cases h136 : n % 136 = 0
    · have hi0 : ((n : Nat) : Int) % 136 = 0 := by omega
      have hnN : n = 136 * padN s := by unfold padN at hn2 ⊢; omega
      have co := hrow.cellAt (j := n - 1) (by omega)
      have hfz1 := hfz (n - 1) (by omega)
      have hx1 := u8_xor128 (padA_lt s (n - 1))
      have hrow2 : rowB (wr.setCell ⟨g, n - 1, none⟩ (.int .u8 ((padA s (n - 1) ^^^ 128 : Nat) : Int))) g (136 * padN s) (padF s) := by
        rw [← hnN]
        refine (hst (n - 1) _ (by omega)).to fun k _ => ?_
        unfold padF
        rw [← hnN]
      have hbel2 := hbel.setCell (p := ⟨g, n - 1, none⟩) (show w.heap.size ≤ g by omega) (.int .u8 ((padA s (n - 1) ^^^ 128 : Nat) : Int))
      have hNn : 0 < padN s := by unfold padN; omega
      replace hnN := Lib.hid hnN
      replace hrow2 := Lib.hid hrow2
      replace hbel2 := Lib.hid hbel2
      clear hst hrow hown hfz hbel hown1'
      go_wp2_with (go_at_call 89; refine (ref_turns _).mono ?_; rintro e wt ⟨rfl, hb_wt⟩; have hbz : (numA .i64 25 rotF).size = 25 := numA_size _; have hsn := store_new wt rotF 137)
      rw [← numA25]
      have hts := hb_wt.size
      have hrow3 := hrow2.out.below hb_wt (by simp; omega)
      have hbel3 := hbel2.out.trans (hb_wt.mono (by simp; omega))
      have hgt : g < wt.heap.size := hrow3.lt
      have hwt := hbel3.size
      clear hsn hrow2 hbel2 hb_wt hts co hfz1 hx1 hi0 h136 hbz
      generalize ht0 : wt.heap.size = r0 at hgt hwt ⊢
      replace ht0 := Lib.hid ht0
      generalize hNe : padN s = N at *
      replace hNe := Lib.hid hNe
      go_loopw [6] (fun v wr => ∃ q o : Nat, q ≤ N ∧ o = 136 * q ∧ v = .int .i64 (o : Nat) ∧ rowN .u64 25 139 wr (r0 + 1) (stF s q) ∧ rowN .i64 25 137 wr r0 rotF ∧ rowB wr g (136 * N) (padF s) ∧ Below w.heap.size w wr)
        (fun v _ => 136 * N - (intOf v).toNat)
      case atStart =>
        refine ⟨0, 0, by omega, by omega, rfl, ?_, (rowN.new ht0.out.symm).alloc _, (hrow3.alloc _).alloc _, ?_⟩
        · rw [st_zero]
          exact rowN.new (by simp [ht0.out])
        · have hwt2 := ht0.out
          repeat (with_reducible first | exact Below.refl _ _ | assumption | refine below_drewN ?_ _ | refine Below.drew ?_ | refine below_setRow' ?_ (by first | omega | (simp; done) | (simp; omega)) _ | refine Below.setCell ?_ (by first | omega | (simp; done) | (simp; omega)) _ | refine Below.alloc ?_ (by first | omega | (simp; done) | (simp; omega)) _ | refine Below.trans ?_ (Below.mono (by assumption) (by first | omega | (simp; done) | (simp; omega))))
      case round =>
        obtain ⟨q, o, hq, ho, rfl, hra, hrr, hrb, hbel⟩ := hrel
        replace ho := Lib.hid ho
        by_cases hqN : q < N
        · have hqn : (o : Int) < (n : Int) := by have := hnN.out; have := ho.out; omega
          have hF := st_lt s q
          have hb := fun i => padF_lt s (136 * q + i)
          have hst := Lib.hid (st_succ s q)
          generalize stF s q = F at *
          have hqi : (o : Int) + 136 ≤ (n : Int) := by have := hnN.out; have := ho.out; omega
          have hq9 : (o : Int) + 136 ≤ 200136 := by have := hnN.out; omega
          go_wp2
          go_loopw [7] (fun v wr => ∃ i : Nat, i ≤ 136 ∧ v = .int .i64 i ∧ rowN .u64 25 139 wr (r0 + 1) (takeB F (fun i => padF s (136 * q + i)) i) ∧ rowN .i64 25 137 wr r0 rotF ∧ rowB wr g (136 * N) (padF s) ∧ Below w.heap.size w wr)
            (fun v _ => 136 - (intOf v).toNat)
          case atStart => exact ⟨0, by omega, rfl, by rw [takeB_zero]; exact hra, hrr, hrb, hbel⟩
          case round =>
            obtain ⟨i, hi, rfl, hra, hrr, hrb, hbel⟩ := hrel
            by_cases h136 : i < 136
            · have h136i : (i : Int) < 136 := by omega
              have hi1 : 0 ≤ (i : Int) / 8 := by omega
              have hi2 : (i : Int) / 8 < 25 := by omega
              have hi3 : ((i : Int) / 8).toNat = i / 8 := by omega
              have hi4 : 0 ≤ 8 * ((i : Int) % 8) := by omega
              have hi5 : 8 * ((i : Int) % 8) < 64 := by omega
              have hi6 : (8 * ((i : Int) % 8)).toNat = 8 * (i % 8) := by omega
              have hi7 : 0 ≤ (o : Int) + (i : Int) := by omega
              have hi8 : (o : Int) + (i : Int) < (n : Int) := by omega
              have hi9 : ((o : Int) + (i : Int)).toNat = o + i := by omega
              have ca := hra.cellAt (j := i / 8) (by omega)
              have fa := hra.free
              have cb := hrb.cellAt (j := o + i) (by have := hnN.out; omega)
              have hbi : padF s (o + i) < 256 := padF_lt s _
              have hx := take_bits (i := i) (takeB_lt hF hb i (i / 8)) hbi
              have htk := Lib.hid (takeB_succ F (fun i => padF s (136 * q + i)) i)
              go_wp2
              first | refine wp_flow (fun k => ([1, 1, 1, 1, 1, 1, 1, 1, 1, 1, 1, 1, 1, 1, 1, 1, 1, 1, 1, 2] : List Nat).getD k 1) Dr _ (Dr.next _ _) (by kernel_rfl) (by kernel_rfl) ?_ | refine wp_flow (fun k => ([1, 1, 1, 1, 1, 1, 1, 1, 1, 1, 1, 1, 1, 1, 1, 1, 1, 1, 1, 2] : List Nat).getD k 1) Dr _ (Dr.one _) (by kernel_rfl) (by kernel_rfl) ?_
              (refine flow_quiet rfl rfl (fun K hK => ?_); apply Exists.intro; apply And.intro; (focus (rintro w' ⟨nn, rfl⟩; go_simp; (try go_bits); exact ⟨rfl, Dr.of _ _⟩)); go_simp; (try go_bits); refine hK _ ?_; clear hK K)
              (refine flow_quiet rfl rfl (fun K hK => ?_); apply Exists.intro; apply And.intro; (focus (rintro w' ⟨nn, rfl⟩; go_simp; (try go_bits); exact ⟨rfl, Dr.of _ _⟩)); go_simp; (try go_bits); refine hK _ ?_; clear hK K)
              (refine flow_quiet rfl rfl (fun K hK => ?_); apply Exists.intro; apply And.intro; (focus (rintro w' ⟨nn, rfl⟩; go_simp; (try go_bits); exact ⟨rfl, Dr.of _ _⟩)); go_simp; (try go_bits); refine hK _ ?_; clear hK K)
              (refine flow_quiet rfl rfl (fun K hK => ?_); apply Exists.intro; apply And.intro; (focus (rintro w' ⟨nn, rfl⟩; go_simp; (try go_bits); exact ⟨rfl, Dr.of _ _⟩)); go_simp; (try go_bits); refine hK _ ?_; clear hK K)
              (refine flow_quiet rfl rfl (fun K hK => ?_); apply Exists.intro; apply And.intro; (focus (rintro w' ⟨nn, rfl⟩; go_simp; (try go_bits); exact ⟨rfl, Dr.of _ _⟩)); go_simp; (try go_bits); refine hK _ ?_; clear hK K)
              (refine flow_quiet rfl rfl (fun K hK => ?_); apply Exists.intro; apply And.intro; (focus (rintro w' ⟨nn, rfl⟩; go_simp; (try go_bits); exact ⟨rfl, Dr.of _ _⟩)); go_simp; (try go_bits); refine hK _ ?_; clear hK K)
              (refine flow_quiet rfl rfl (fun K hK => ?_); apply Exists.intro; apply And.intro; (focus (rintro w' ⟨nn, rfl⟩; go_simp; (try go_bits); exact ⟨rfl, Dr.of _ _⟩)); go_simp; (try go_bits); refine hK _ ?_; clear hK K)
              (refine flow_quiet rfl rfl (fun K hK => ?_); apply Exists.intro; apply And.intro; (focus (rintro w' ⟨nn, rfl⟩; go_simp; (try go_bits); exact ⟨rfl, Dr.of _ _⟩)); go_simp; (try go_bits); refine hK _ ?_; clear hK K)
              (refine flow_quiet rfl rfl (fun K hK => ?_); apply Exists.intro; apply And.intro; (focus (rintro w' ⟨nn, rfl⟩; go_simp; (try go_bits); exact ⟨rfl, Dr.of _ _⟩)); go_simp; (try go_bits); refine hK _ ?_; clear hK K)
              (refine flow_quiet rfl rfl (fun K hK => ?_); apply Exists.intro; apply And.intro; (focus (rintro w' ⟨nn, rfl⟩; go_simp; (try go_bits); exact ⟨rfl, Dr.of _ _⟩)); go_simp; (try go_bits); refine hK _ ?_; clear hK K)
              (refine flow_quiet rfl rfl (fun K hK => ?_); apply Exists.intro; apply And.intro; (focus (rintro w' ⟨nn, rfl⟩; go_simp; (try go_bits); exact ⟨rfl, Dr.of _ _⟩)); go_simp; (try go_bits); refine hK _ ?_; clear hK K)
              (refine flow_quiet rfl rfl (fun K hK => ?_); apply Exists.intro; apply And.intro; (focus (rintro w' ⟨nn, rfl⟩; go_simp; (try go_bits); exact ⟨rfl, Dr.of _ _⟩)); go_simp; (try go_bits); refine hK _ ?_; clear hK K)
              (refine flow_quiet rfl rfl (fun K hK => ?_); apply Exists.intro; apply And.intro; (focus (rintro w' ⟨nn, rfl⟩; go_simp; (try go_bits); exact ⟨rfl, Dr.of _ _⟩)); go_simp; (try go_bits); refine hK _ ?_; clear hK K)
              (refine flow_quiet rfl rfl (fun K hK => ?_); apply Exists.intro; apply And.intro; (focus (rintro w' ⟨nn, rfl⟩; go_simp; (try go_bits); exact ⟨rfl, Dr.of _ _⟩)); go_simp; (try go_bits); refine hK _ ?_; clear hK K)
              (refine flow_quiet rfl rfl (fun K hK => ?_); apply Exists.intro; apply And.intro; (focus (rintro w' ⟨nn, rfl⟩; go_simp; (try go_bits); exact ⟨rfl, Dr.of _ _⟩)); go_simp; (try go_bits); refine hK _ ?_; clear hK K)
              (refine flow_quiet rfl rfl (fun K hK => ?_); apply Exists.intro; apply And.intro; (focus (rintro w' ⟨nn, rfl⟩; go_simp; (try go_bits); exact ⟨rfl, Dr.of _ _⟩)); go_simp; (try go_bits); refine hK _ ?_; clear hK K)
              (refine flow_quiet rfl rfl (fun K hK => ?_); apply Exists.intro; apply And.intro; (focus (rintro w' ⟨nn, rfl⟩; go_simp; (try go_bits); exact ⟨rfl, Dr.of _ _⟩)); go_simp; (try go_bits); refine hK _ ?_; clear hK K)
              (refine flow_quiet rfl rfl (fun K hK => ?_); apply Exists.intro; apply And.intro; (focus (rintro w' ⟨nn, rfl⟩; go_simp; (try go_bits); exact ⟨rfl, Dr.of _ _⟩)); go_simp; (try go_bits); refine hK _ ?_; clear hK K)
              (refine flow_quiet rfl rfl (fun K hK => ?_); apply Exists.intro; apply And.intro; (focus (rintro w' ⟨nn, rfl⟩; go_simp; (try go_bits); exact ⟨rfl, Dr.of _ _⟩)); go_simp; (try go_bits); refine hK _ ?_; clear hK K)
              (refine flow_eff rfl rfl (fun K hK => ?_); apply Exists.intro; apply Exists.intro; apply And.intro; (focus (rintro w' ⟨nn, rfl⟩; go_simp; (try go_bits); refine ⟨rfl, ?_⟩; with_reducible first | exact Dr.store _ _ _ _ | exact Dr.store4 _ _ _ _ _ _ _ _ _ _)); go_simp; (try go_bits); refine hK _ _ ?_; clear hK K)
              refine flow_nil ?_
              rintro w' ⟨nq, rfl⟩
              go_wp2
              go_roundw
              case rel =>
                refine ⟨i + 1, by omega, by go_num, ?_, (hrr.set (by omega)).drewN _, (hrb.set (by omega)).drewN _, ?_⟩
                · rw [htk.out]
                  refine (hra.store.drewN _).to fun j _ => ?_
                  rw [ho.out]
                · skip
                  repeat (with_reducible first | exact Below.refl _ _ | assumption | refine below_drewN ?_ _ | refine Below.drew ?_ | refine below_setRow' ?_ (by first | omega | (simp; done) | (simp; omega)) _ | refine Below.setCell ?_ (by first | omega | (simp; done) | (simp; omega)) _ | refine Below.alloc ?_ (by first | omega | (simp; done) | (simp; omega)) _ | refine Below.trans ?_ (Below.mono (by assumption) (by first | omega | (simp; done) | (simp; omega))))
              case measure => simp [intOf]; omega
            · have hmf : decide ((i : Int) < 136) = false := by simp; omega
              rw [show i = 136 by omega] at hra
              clear h136 hi
              have hF2 := takeB_lt hF hb 136
              generalize takeB F (fun i => padF s (136 * q + i)) 136 = T at *
              go_wp2
              go_loopw [8] (fun v wr => ∃ k : Nat, k ≤ 24 ∧ v = .int .i64 k ∧ rowN .u64 25 139 wr (r0 + 1) (rnds T k) ∧ rowN .i64 25 137 wr r0 rotF ∧ rowB wr g (136 * N) (padF s) ∧ Below w.heap.size w wr)
                (fun v _ => 24 - (intOf v).toNat)
              case atStart => exact ⟨0, by omega, rfl, by rw [rnds_zero]; exact hra, hrr, hrb, hbel⟩
              case round =>
                obtain ⟨k, hk, rfl, hra, hrr, hrb, hbel⟩ := hrel
                by_cases h24 : k < 24
                · have h24i : (k : Int) < 24 := by omega
                  have hR := rnds_lt hF2 k
                  have hrs := Lib.hid (rnds_succ T k)
                  generalize rnds T k = R at *
                  have hla := hra.lt
                  have hlr := hrr.lt
                  have hlb := hrb.lt
                  have hga : wr.heap[r0 + 1]? = some (.cells (numA .u64 25 R) 139 (0, 0)) := hra
                  have hgr : wr.heap[r0]? = some (.cells (numA .i64 25 rotF) 137 (0, 0)) := hrr
                  have hsa : (Tryd.prog.info? 139).map (·.size) = some (numA .u64 25 R).size := by rw [numA_size]; exact info25s
                  have hsr : (Tryd.prog.info? 137).map (·.size) = some (numA .i64 25 rotF).size := by rw [numA_size]; exact info25i
                  have cR := fun W => ref_round R hR k h24 W
                  go_wp2_with (first
                    | (with_reducible refine wpList_load_row rfl 139 (.tmp 5) rfl _ rfl _ _ _ _ hga under25s rfl hsa ?_)
                    | (with_reducible refine wpList_load_row rfl 137 (.tmp 4) rfl _ rfl _ _ _ _ hgr under25i rfl hsr ?_)
                    | (go_at_call 90; refine (cR _).mono ?_; rintro e wq ⟨rfl, hb_wq⟩; have hbz : (numA .u64 25 (rndF k R)).size = 25 := numA_size _; have hst2 := (hra.below hb_wq hla).storeA (P := Tryd.prog) (rndF k R)))
                  go_roundw
                  case rel =>
                    refine ⟨k + 1, by omega, by go_num, ?_, (hrr.below hb_wq hlr).setRow_ne (by omega), (hrb.below hb_wq hlb).setRow_ne (by omega), below_setRow' (hbel.trans (hb_wq.mono hbel.size)) (by omega) _⟩
                    rw [hrs.out]
                    exact (hra.below hb_wq hla).setRow _
                  case measure => simp [intOf]; omega
                · have hmf : decide ((k : Int) < 24) = false := by simp; omega
                  obtain rfl : k = 24 := by omega
                  go_wp2
                  go_roundw
                  case rel => exact ⟨q + 1, o + 136, by omega, by have := ho.out; omega, by go_num, by rw [hst.out]; exact hra, hrr, hrb, hbel⟩
                  case measure => simp [intOf]; omega
        · have hmf : decide ((o : Int) < (n : Int)) = false := by have := hnN.out; have := ho.out; simp; omega
          have hmf2 : decide (o < n) = false := by have := hnN.out; have := ho.out; simp; omega
          have hqe : q = N := by omega
          rw [hqe] at hra
          clear hqN hq hrr hrb
          have hRL := st_lt s N
          have hla := hra.lt
          generalize hR : stF s N = R at hra hRL
          replace hR := Lib.hid hR
          have hbs := hbel.size
          go_wp2
          generalize hb2 : wr.heap.size = b2 at hla hbs ⊢
          replace hb2 := Lib.hid hb2
          go_loopw [9, 10] (fun v x wr => ∃ i : Nat, i ≤ 32 ∧ x = .int .i64 i ∧ ownB wr b2 v i (outF R) ∧ b2 ≤ wr.heap.size ∧ rowN .u64 25 139 wr (r0 + 1) R ∧ Below w.heap.size w wr)
            (fun _ x _ => 32 - (intOf x).toNat)
          case atStart => exact ⟨0, by omega, rfl, ownB_nil _ _ _, by have := hb2.out; omega, hra, hbel⟩
          case round =>
            obtain ⟨i, hi, rfl, hown, hb2s, hra, hbel⟩ := hrel
            have hlr := hra.lt
            by_cases h32 : i < 32
            · have h32i : (i : Int) < 32 := by omega
              have hi1 : 0 ≤ (i : Int) / 8 := by omega
              have hi2 : (i : Int) / 8 < 25 := by omega
              have hi3 : ((i : Int) / 8).toNat = i / 8 := by omega
              have hi4 : 0 ≤ 8 * ((i : Int) % 8) := by omega
              have hi5 : 8 * ((i : Int) % 8) < 64 := by omega
              have hi6 : (8 * ((i : Int) % 8)).toNat = 8 * (i % 8) := by omega
              have ca := hra.cellAt (j := i / 8) (by omega)
              have hbb : ((R (i / 8) : Nat) : Int) / 2 ^ (8 * (i % 8)) % 256 = ((outF R i : Nat) : Int) := byte_outR R i
              go_wp2_with (at_builtin; refine wpList_append_byte rfl (.tmp 76) (.tmp 86) rfl rfl (hown.alloc _) wr.heap.size (outF R i) rfl (by simp) (by omega) (by first | omega | (simp; omega)) ?_; intro v' w2 hown' hgrow)
              have hown2 := hown'.to (f' := outF R) fun j _ => by
                by_cases e : j = i
                · rw [if_pos e, e]
                · rw [if_neg e]
              have hbel2 := grown_below (hown.alloc _) (hbel.alloc hbel.size _) hbs hgrow
              have hb2s2 : b2 ≤ w2.heap.size := by have := hgrow.size; simp at this; omega
              have hra2 : rowN .u64 25 139 w2 (r0 + 1) R := (hgrow.block (r0 + 1) (by simp; omega) (fun e => by have := (hown.lt (r0 + 1) e.symm).1; omega)).trans (hra.alloc _)
              clear hown' hgrow
              go_wp2
              go_roundw
              case rel => exact ⟨i + 1, by omega, by go_num, hown2, hb2s2, hra2, hbel2⟩
              case measure => simp [intOf]; omega
            · have hmf : decide ((i : Int) < 32) = false := by simp; omega
              obtain rfl : i = 32 := by omega
              obtain ⟨g2, cap2, rfl, _, _, _, _, hro, _, _⟩ := hown.parts (by omega)
              have hcv := string_of (cap := cap2) fun j hj => hro.cellAt hj
              clear hown hro
              go_wp2
              go_ret
              refine ⟨by unfold digS; rw [hNe.out, hR.out]; rfl, ?_⟩
              repeat (with_reducible first | exact Below.refl _ _ | assumption | refine below_drewN ?_ _ | refine Below.drew ?_ | refine below_setRow' ?_ (by first | omega | (simp; done) | (simp; omega)) _ | refine Below.setCell ?_ (by first | omega | (simp; done) | (simp; omega)) _ | refine Below.alloc ?_ (by first | omega | (simp; done) | (simp; omega)) _ | refine Below.trans ?_ (Below.mono (by assumption) (by first | omega | (simp; done) | (simp; omega))))
    · have hi0 : ¬ ((n : Nat) : Int) % 136 = 0 := by omega
      go_wp2_with (at_builtin; refine wpList_append_byte rfl (.tmp 19) (.tmp 20) rfl rfl (hown.alloc _) wr.heap.size 0 rfl (by simp) (by omega) (by first | omega | (simp; omega)) ?_; intro v' w2 hown' hgrow)
      have hown2 := hown'.to fun j _ => padA_more s hn1 j
      have hbel2 := grown_below (hown.alloc _) (hbel.alloc hbel.size _) (Nat.le_refl _) hgrow
      clear hown' hgrow hst hrow hfz
      go_wp2
      go_roundw
      case rel => exact ⟨n + 1, by omega, by unfold padN at hn2 ⊢; omega, hown2, hbel2⟩
      case measure =>
        obtain ⟨g', cap', rfl, _⟩ := hown2.parts (by omega)
        simp only [lenW]
        omega
end Go.Proofs.YtcdjdnbdblpofaaDoor
