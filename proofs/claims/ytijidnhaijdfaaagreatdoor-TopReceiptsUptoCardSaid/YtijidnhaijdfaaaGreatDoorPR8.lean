/-
  Texts of one proof, one behind the other. Conditions: each text's own line says them.
-/
import Derived.Test.YtijidnhaijdfaaaGreatDoorPR6
import Derived.Laws.BytesString
import Derived.WalkMore
import Derived.Lib.Hide

/- What a digest is: plain facts; the string of 32 bytes. Conditions: none. -/
namespace Go.Proofs.YtijidnhaijdfaaaGreatDoor
open Go.RowKit
set_option linter.unusedSimpArgs false
set_option linter.unusedVariables false

/-- A text with a byte 1 behind it and bytes 0 behind that; the last byte's highest bit turned over. -/
def padA (s : ByteArray) (j : Nat) : Nat := if j < s.size then byteAt s j else if j = s.size then 1 else 0
def padN (s : ByteArray) : Nat := s.size / 136 + 1
def padF (s : ByteArray) (j : Nat) : Nat := if j = 136 * padN s - 1 then padA s (136 * padN s - 1) ^^^ 128 else padA s j
theorem padA_lt (s : ByteArray) (j : Nat) : padA s j < 256 := by
  unfold padA
  split
  · exact byteAt_lt s j
  · split <;> decide
theorem padF_lt (s : ByteArray) (j : Nat) : padF s j < 256 := by
  unfold padF
  split
  · exact Nat.xor_lt_two_pow (n := 8) (padA_lt _ _) (by decide)
  · exact padA_lt s j
theorem padA_str (s : ByteArray) : ∀ j, j < s.size → byteAt s j = padA s j := fun j hj => by unfold padA; rw [if_pos hj]
theorem padA_one (s : ByteArray) (j : Nat) (h : j < s.size + 1) : (if j = s.size then 1 else byteAt s j) = padA s j := by
  unfold padA
  by_cases e : j = s.size
  · rw [if_pos e, if_neg (by omega), if_pos e]
  · rw [if_neg e, if_pos (by omega)]
theorem padA_more (s : ByteArray) {n : Nat} (hn : s.size < n) (j : Nat) : (if j = n then 0 else padA s j) = padA s j := by
  by_cases e : j = n
  · subst e
    rw [if_pos rfl]
    unfold padA
    rw [if_neg (by omega), if_neg (by omega)]
  · rw [if_neg e]

/-- The state behind q blocks. -/
def stF (s : ByteArray) : Nat → (Nat → Nat)
  | 0 => fun _ => 0
  | q + 1 => rnds (takeB (stF s q) (fun i => padF s (136 * q + i)) 136) 24
theorem st_zero (s : ByteArray) : stF s 0 = fun _ => 0 := rfl
theorem st_succ (s : ByteArray) (q : Nat) : stF s (q + 1) = rnds (takeB (stF s q) (fun i => padF s (136 * q + i)) 136) 24 := rfl
theorem st_lt (s : ByteArray) : ∀ q, LL (stF s q)
  | 0 => fun _ => M64_pos
  | q + 1 => rnds_lt (takeB_lt (st_lt s q) (fun i => padF_lt s _) 136) 24

/-- Byte k of a state. -/
def outF (f : Nat → Nat) (k : Nat) : Nat := f (k / 8) / 2 ^ (8 * (k % 8)) % 256
theorem outF_lt (f : Nat → Nat) (k : Nat) : outF f k < 256 := Nat.mod_lt _ (by decide)

/-- The bytes told so far. -/
def outN (f : Nat → Nat) (n : Nat) : Nat → Nat := fun k => if k < n then outF f k else 0
theorem outN_zero (f : Nat → Nat) (k : Nat) : 0 = outN f 0 k := by unfold outN; rw [if_neg (by omega)]
theorem outN_all (f : Nat → Nat) (k : Nat) (h : k < 32) : outN f 32 k = outF f k := by unfold outN; rw [if_pos h]
theorem outN_succ (f : Nat → Nat) (n k : Nat) : (if k = n then outF f n else outN f n k) = outN f (n + 1) k := by
  unfold outN
  by_cases h : k = n
  · subst h
    rw [if_pos rfl, if_pos (by omega)]
  · rw [if_neg h]
    by_cases h2 : k < n
    · rw [if_pos h2, if_pos (by omega)]
    · rw [if_neg h2, if_neg (by omega)]

/-- 32 bytes as a string. -/
def strL (f : Nat → Nat) : List Int := (List.range 32).map fun k => ((f k : Nat) : Int)
def strF (f : Nat → Nat) : ByteArray := (strL f).foldl (fun r n => r.push (UInt8.ofNat n.toNat)) ByteArray.empty

theorem string_of {W : World} {k cap : Nat} {f : Nat → Nat} (hc : ∀ j, j < 32 → W.cell? ⟨k, j, none⟩ = some (.int .u8 (f j : Nat))) : (convert 60 9 (.slice (some ⟨k, 0, none⟩) 32 cap)).run Tryz.prog W = .ok (.string (strF f)) W := by
  rw [run_convert_bytes_string W 60 9 5 _ _ _ Tryz.underlying60 Tryz.underlying5 Tryz.underlying9]
  refine run_bytesToString W _ 32 cap (strL f) ?_
  have hadd : ∀ q j : Nat, (⟨q, 0, none⟩ : Addr).add j = ⟨q, j, none⟩ := fun q j => by unfold Addr.add; split <;> simp_all
  have hl : ((strL f).map (Value.int .u8)).length = 32 := by simp [strL]
  have := run_loadCells_list (P := Tryz.prog) W ⟨k, 0, none⟩ ((strL f).map (Value.int .u8)) (fun j v hv => by
    have hj : j < 32 := by
      have := (List.getElem?_eq_some_iff.1 hv).1
      omega
    have h3 : ((strL f).map (Value.int .u8))[j]? = some (.int .u8 (f j : Nat)) := by simp [strL, hj]
    rw [h3] at hv
    injection hv with hv
    subst hv
    rw [hadd]
    exact hc j hj)
  rw [hl] at this
  exact this

/-- A text's digest. -/
def digS (s : ByteArray) : ByteArray := strF (outF (stF s (padN s)))

theorem byte_bits {a k : Nat} : ((a : Nat) : Int) / 2 ^ (8 * (k % 8)) % 256 = ((a / 2 ^ (8 * (k % 8)) % 256 : Nat) : Int) := by
  rw [Int.natCast_emod, Int.natCast_ediv, Int.natCast_pow]
  rfl

/-- One byte taken in, as the code computes it. -/
theorem take_bits {x b i : Nat} (hx : x < M64) (hb : b < 256) : bits .xor .u64 ((x : Nat) : Int) (IntKind.u64.wrap ((b : Nat) * 2 ^ (8 * (i % 8)))) = ((x ^^^ b * 2 ^ (8 * (i % 8)) : Nat) : Int) := by
  have h := byte_lane (k := i) hb
  have e : ((b : Int) * 2 ^ (8 * (i % 8))) = ((b * 2 ^ (8 * (i % 8)) : Nat) : Int) := by push_cast; rfl
  rw [e, u64_wrapN, Nat.mod_eq_of_lt h, u64_xorN hx h]
theorem u8_xor128 {x : Nat} (h : x < 256) : bits .xor .u8 ((x : Nat) : Int) 128 = ((x ^^^ 128 : Nat) : Int) := u8_xor_nat x 128 h (by decide)
end Go.Proofs.YtijidnhaijdfaaaGreatDoor

/- The contract of keccak.Sum. Conditions: the three tables stand in their blocks; the text is not too long. -/
namespace Go.Proofs.YtijidnhaijdfaaaGreatDoor
open Go.RowKit
attribute [local go_sem] leftBy
set_option linter.unusedSimpArgs false
set_option linter.unusedVariables false


/-- A text with a byte 1 behind it. -/
theorem byteAt_one (s : ByteArray) : ∀ j, j < (s ++ ⟨#[1]⟩ : ByteArray).size → byteAt (s ++ ⟨#[1]⟩) j = padA s j := fun j hj => by
  have hz : (s ++ ⟨#[1]⟩ : ByteArray).size = s.size + 1 := by simp [ByteArray.size_append]; rfl
  rw [hz] at hj
  rw [← padA_one s j hj]
  unfold byteAt
  have e : (s ++ ⟨#[1]⟩ : ByteArray).data.toList = s.data.toList ++ [1] := by simp [ByteArray.data_append]
  rw [e]
  by_cases h : j = s.size
  · subst h
    rw [if_pos rfl, List.getD_eq_getElem?_getD, List.getElem?_append_right (by simp)]
    have : s.size - s.data.toList.length = 0 := by simp
    rw [this]
    rfl
  · rw [if_neg h, List.getD_eq_getElem?_getD, List.getD_eq_getElem?_getD, List.getElem?_append_left (by simp; show j < s.size; omega)]

/-- How long a slice is. -/
def lenV : Value → Nat
  | .slice _ n _ => n
  | _ => 0

theorem byte_out (f : Nat → Nat) (i : Nat) : ((f (i / 8) : Nat) : Int) / 2 ^ (8 * (i % 8)) % 256 = ((outF f i : Nat) : Int) := byte_bits

attribute [local irreducible] padA padN padF stF takeB rnds outF outN strF digS numA byteAt


set_option maxRecDepth 100000 in
set_option maxHeartbeats 8000000 in
/-- keccak.Sum. -/
theorem Sum_any (v : Value) (s : ByteArray) (hs : s.size ≤ 200000) (w : World) (hw : 3 ≤ w.heap.size) (hT : KT w)
    (cJ : Calls Tryz.prog 20 #[v, .string ⟨#[]⟩] w fun e w' => e = .returned (.string s) ∧ Below w.heap.size w w') :
    Calls Tryz.prog 7 #[v] w fun e w' => e = .returned (.string (digS s)) ∧ Below w.heap.size w w' := by
  have hz1 : (s ++ ⟨#[1]⟩ : ByteArray).size = s.size + 1 := by simp [ByteArray.size_append]; rfl
  have hm1 : (s ++ ⟨#[1]⟩ : ByteArray).size ≤ maxLen := by rw [hz1]; unfold maxLen; omega
  go_enter Tryz.func7, Tryz.ntmps7
  go_wp2
  go_step3
  go_wp2_with (first
    | (go_at_call 20; refine cJ.mono ?_; rintro e wj ⟨rfl, hb_wj⟩)
    | (refine wpList_bytes rfl (.tmp 10) rfl rfl hm1 ?_; intro v0 w0 hown0 hb0))
  replace hown0 := hown0.to (byteAt_one s)
  rw [hz1] at hown0
  clear hm1 hz1
  have hjs := hb_wj.size
  have hb0s := hb0.size
  have hbel0 : Below w.heap.size w w0 := hb_wj.trans (hb0.mono hjs)
  generalize wj.heap.size = B at *
  clear hb0
  go_loopw [3] (fun v wr => ∃ n : Nat, s.size < n ∧ n ≤ 136 * padN s ∧ ownB wr B v n (padA s) ∧ B ≤ wr.heap.size ∧ Below w.heap.size w wr)
    (fun v _ => 136 * padN s - lenV v)
  case atStart => exact ⟨s.size + 1, by omega, by unfold padN; omega, hown0, hb0s, hbel0⟩
  case round =>
    obtain ⟨n, hn1, hn2, hown, hBs, hbel⟩ := hrel
    obtain ⟨g, cap, rfl, hBg, hgw, hnc, hcm, hrow, hfz, hst⟩ := hown.parts (by omega)
    have hN : 136 * padN s ≤ 200136 := by unfold padN; omega
    by_cases h136 : n % 136 = 0
    · have hi0 : ((n : Nat) : Int) % 136 = 0 := by omega
      have hnN : n = 136 * padN s := by unfold padN at hn2 ⊢; omega
      have co := hrow.cellAt (j := n - 1) (by omega)
      have hfz1 := hfz (n - 1) (by omega)
      have hx1 := u8_xor128 (padA_lt s (n - 1))
      have hrow2 : rowB (wr.setCell ⟨g, n - 1, none⟩ (.int .u8 ((padA s (n - 1) ^^^ 128 : Nat) : Int))) g (136 * padN s) (padF s) := by
        rw [← hnN]
        refine (hst (n - 1) _ (by omega)).to fun k _ => ?_
        unfold padF
        rw [← hnN]
      have hbel2 := hbel.setCell (p := ⟨g, n - 1, none⟩) (show w.heap.size ≤ g by omega) (.int .u8 ((padA s (n - 1) ^^^ 128 : Nat) : Int))
      have hNn : 0 < padN s := by unfold padN; omega
      replace hnN := Lib.hid hnN
      replace hrow2 := Lib.hid hrow2
      replace hbel2 := Lib.hid hbel2
      clear hst hrow hown hfz hbel hown0
      go_wp2
      go_step3
      go_wp2
      rw [← numA25]
      have hgn : g ≠ wr.heap.size := by omega
      have ha3 : 3 ≤ wr.heap.size := by omega
      have hwa : w.heap.size ≤ wr.heap.size := by omega
      generalize ha0 : wr.heap.size = a0 at hgn ha3 hwa ⊢
      replace ha0 := Lib.hid ha0
      clear co hfz1 hx1 hi0 h136
      generalize hNe : padN s = N at *
      replace hNe := Lib.hid hNe
      go_loopw [3] (fun v wr => ∃ q o l c : Nat, q < N ∧ o = 136 * q ∧ l = 136 * (N - q) ∧ l ≤ c ∧ v = .slice (some ⟨g, o, none⟩) l c ∧ rowN .u64 25 62 wr a0 (stF s q) ∧ rowB wr g (136 * N) (padF s) ∧ Below w.heap.size w wr)
        (fun v _ => lenV v)
      case atStart =>
        refine ⟨0, 0, n, cap, hNn, by omega, by have := hnN.out; omega, hnc, rfl, ?_, hrow2.out.alloc _, ?_⟩
        · rw [st_zero]
          exact rowN.new (by rw [← ha0.out]; simp)
        · exact hbel2.out.alloc (by rw [ha0.out] at *; simp; omega) _
      case round =>
        obtain ⟨q, o, l, c, hq, ho, hl, hlc, rfl, hra, hrb, hbel⟩ := hrel
        have hF := st_lt s q
        have hb := fun i => padF_lt s (136 * q + i)
        have hst := Lib.hid (st_succ s q)
        have hl136 : 136 ≤ l := by omega
        have hlN : l ≤ 200136 := by omega
        replace hl := Lib.hid hl
        replace ho := Lib.hid ho
        generalize stF s q = F at *
        go_wp2
        go_loopw [27] (fun v wr => ∃ i : Nat, i ≤ 136 ∧ v = .int .i64 i ∧ rowN .u64 25 62 wr a0 (takeB F (fun i => padF s (136 * q + i)) i) ∧ rowB wr g (136 * N) (padF s) ∧ Below w.heap.size w wr)
          (fun v _ => 136 - (intOf v).toNat)
        case atStart => exact ⟨0, by omega, rfl, by rw [takeB_zero]; exact hra, hrb, hbel⟩
        case round =>
          obtain ⟨i, hi, rfl, hra, hrb, hbel⟩ := hrel
          by_cases h136 : i < 136
          · have h136i : (i : Int) < 136 := by omega
            have hil : (i : Int) < (l : Int) := by omega
            have hi1 : 0 ≤ (i : Int) / 8 := by omega
            have hi2 : (i : Int) / 8 < 25 := by omega
            have hi3 : ((i : Int) / 8).toNat = i / 8 := by omega
            have hi4 : 0 ≤ 8 * ((i : Int) % 8) := by omega
            have hi5 : 8 * ((i : Int) % 8) < 64 := by omega
            have hi6 : (8 * ((i : Int) % 8)).toNat = 8 * (i % 8) := by omega
            have ca := hra.cellAt (j := i / 8) (by omega)
            have fa := hra.free
            have cb := hrb.cellAt (j := o + i) (by have := hl.out; have := ho.out; omega)
            have hbi : padF s (o + i) < 256 := padF_lt s _
            have hx := take_bits (i := i) (takeB_lt hF hb i (i / 8)) hbi
            have htk := Lib.hid (takeB_succ F (fun i => padF s (136 * q + i)) i)
            go_wp2
            first | refine wp_flow (fun k => ([1, 1, 1, 1, 1, 1, 1, 1, 1, 1, 1, 1, 1, 1, 1, 2] : List Nat).getD k 1) Dr _ (Dr.next _ _) (by kernel_rfl) (by kernel_rfl) ?_ | refine wp_flow (fun k => ([1, 1, 1, 1, 1, 1, 1, 1, 1, 1, 1, 1, 1, 1, 1, 2] : List Nat).getD k 1) Dr _ (Dr.one _) (by kernel_rfl) (by kernel_rfl) ?_
            iterate 15 ((refine flow_quiet rfl rfl (fun K hK => ?_); apply Exists.intro; apply And.intro; (focus (rintro w' ⟨nn, rfl⟩; go_simp; (try go_bits); exact ⟨rfl, Dr.of _ _⟩)); go_simp; (try go_bits); refine hK _ ?_; clear hK K))
            (refine flow_eff rfl rfl (fun K hK => ?_); apply Exists.intro; apply Exists.intro; apply And.intro; (focus (rintro w' ⟨nn, rfl⟩; go_simp; (try go_bits); refine ⟨rfl, ?_⟩; with_reducible first | exact Dr.store _ _ _ _ | exact Dr.store4 _ _ _ _ _ _ _ _ _ _)); go_simp; (try go_bits); refine hK _ _ ?_; clear hK K)
            refine flow_nil ?_
            rintro w' ⟨nq, rfl⟩
            go_wp2
            go_roundw
            case rel =>
              refine ⟨i + 1, by omega, by go_num, ?_, (hrb.set hgn).drewN _, ?_⟩
              · rw [htk.out]
                refine (hra.store.drewN _).to fun j _ => ?_
                rw [ho.out]
              · skip
                repeat (with_reducible first | exact Below.refl _ _ | assumption | refine below_drewN ?_ _ | refine Below.drew ?_ | refine below_setRow' ?_ (by first | omega | (simp; done) | (simp; omega)) _ | refine Below.setCell ?_ (by first | omega | (simp; done) | (simp; omega)) _ | refine Below.alloc ?_ (by first | omega | (simp; done) | (simp; omega)) _ | refine Below.trans ?_ (Below.mono (by assumption) (by first | omega | (simp; done) | (simp; omega))))
            case measure => simp [intOf]; omega
          · have hmf : decide ((i : Int) < 136) = false := by simp; omega
            obtain rfl : i = 136 := by omega
            have hF2 := takeB_lt hF hb 136
            have hT2 := hT.below hbel hw
            clear hmf h136 hi
            by_cases hlast : q + 1 = N
            · obtain rfl : l = 136 := by have := hl.out; rw [this, show N - q = 1 by omega]
              by_cases hc : c = 136
              · go_wp2_with (go_at_call 21; refine (permute_any a0 _ hF2 _ ha3 hT2 hra).mono ?_; rintro e wp ⟨rfl, hra2, hfr2⟩)
                rw [← numA32]
                have hbel3 : Below w.heap.size w wp := hbel.trans (hfr2.toBelow hbel.size (fun k hk => by omega))
                have hRe : rnds (takeB F (fun i => padF s (136 * q + i)) 136) 24 = stF s N := by rw [← hst.out, hlast]
                rw [hRe] at hra2
                have hRL := st_lt s N
                have hal := hra2.lt
                clear hRe hra hrb hbel
                generalize hR : stF s N = R at hra2 hRL
                replace hR := Lib.hid hR
                have hbs3 := hbel3.size
                generalize ho0 : wp.heap.size = o0 at hal ⊢
                replace ho0 := Lib.hid ho0
                go_loopw [52] (fun v wr => ∃ i : Nat, i ≤ 32 ∧ v = .int .i64 i ∧ rowN .u8 32 65 wr o0 (outN R i) ∧ rowN .u64 25 62 wr a0 R ∧ Below w.heap.size w wr)
                  (fun v _ => 32 - (intOf v).toNat)
                case atStart => exact ⟨0, by omega, rfl, (rowN.new ho0.out.symm).to fun k _ => outN_zero R k, hra2.alloc _, hbel3.alloc hbs3 _⟩
                case round =>
                  obtain ⟨i, hi, rfl, hro, hra, hbel⟩ := hrel
                  by_cases h32 : i < 32
                  · have h32i : (i : Int) < 32 := by omega
                    have hi1 : 0 ≤ (i : Int) / 8 := by omega
                    have hi2 : (i : Int) / 8 < 25 := by omega
                    have hi3 : ((i : Int) / 8).toNat = i / 8 := by omega
                    have hi4 : 0 ≤ 8 * ((i : Int) % 8) := by omega
                    have hi5 : 8 * ((i : Int) % 8) < 64 := by omega
                    have hi6 : (8 * ((i : Int) % 8)).toNat = 8 * (i % 8) := by omega
                    have ca := hra.cellAt (j := i / 8) (by omega)
                    have co := hro.cellAt h32
                    have fo := hro.free
                    have hbb : ((R (i / 8) : Nat) : Int) / 2 ^ (8 * (i % 8)) % 256 = ((outF R i : Nat) : Int) := byte_out R i
                    go_wp2
                    go_roundw
                    case rel =>
                      refine ⟨i + 1, by omega, by go_num, hro.store.to fun k _ => outN_succ R i k, hra.set (by omega), ?_⟩
                      repeat (with_reducible first | exact Below.refl _ _ | assumption | refine below_drewN ?_ _ | refine Below.drew ?_ | refine below_setRow' ?_ (by first | omega | (simp; done) | (simp; omega)) _ | refine Below.setCell ?_ (by first | omega | (simp; done) | (simp; omega)) _ | refine Below.alloc ?_ (by first | omega | (simp; done) | (simp; omega)) _ | refine Below.trans ?_ (Below.mono (by assumption) (by first | omega | (simp; done) | (simp; omega))))
                    case measure => simp [intOf]; omega
                  · have hmf : decide ((i : Int) < 32) = false := by simp; omega
                    obtain rfl : i = 32 := by omega
                    have hro' := hro.to (outN_all R)
                    have hcv := string_of (cap := 32) fun j hj => hro'.cellAt hj
                    clear hro
                    go_wp2
                    rw [Exit.noGoto_ret]
                    go_ret
                    refine ⟨by unfold digS; rw [hNe.out, hR.out]; rfl, ?_⟩
                    repeat (with_reducible first | exact Below.refl _ _ | assumption | refine below_drewN ?_ _ | refine Below.drew ?_ | refine below_setRow' ?_ (by first | omega | (simp; done) | (simp; omega)) _ | refine Below.setCell ?_ (by first | omega | (simp; done) | (simp; omega)) _ | refine Below.alloc ?_ (by first | omega | (simp; done) | (simp; omega)) _ | refine Below.trans ?_ (Below.mono (by assumption) (by first | omega | (simp; done) | (simp; omega))))
              · go_wp2_with (go_at_call 21; refine (permute_any a0 _ hF2 _ ha3 hT2 hra).mono ?_; rintro e wp ⟨rfl, hra2, hfr2⟩)
                rw [← numA32]
                have hbel3 : Below w.heap.size w wp := hbel.trans (hfr2.toBelow hbel.size (fun k hk => by omega))
                have hRe : rnds (takeB F (fun i => padF s (136 * q + i)) 136) 24 = stF s N := by rw [← hst.out, hlast]
                rw [hRe] at hra2
                have hRL := st_lt s N
                have hal := hra2.lt
                clear hRe hra hrb hbel
                generalize hR : stF s N = R at hra2 hRL
                replace hR := Lib.hid hR
                have hbs3 := hbel3.size
                generalize ho0 : wp.heap.size = o0 at hal ⊢
                replace ho0 := Lib.hid ho0
                go_loopw [52] (fun v wr => ∃ i : Nat, i ≤ 32 ∧ v = .int .i64 i ∧ rowN .u8 32 65 wr o0 (outN R i) ∧ rowN .u64 25 62 wr a0 R ∧ Below w.heap.size w wr)
                  (fun v _ => 32 - (intOf v).toNat)
                case atStart => exact ⟨0, by omega, rfl, (rowN.new ho0.out.symm).to fun k _ => outN_zero R k, hra2.alloc _, hbel3.alloc hbs3 _⟩
                case round =>
                  obtain ⟨i, hi, rfl, hro, hra, hbel⟩ := hrel
                  by_cases h32 : i < 32
                  · have h32i : (i : Int) < 32 := by omega
                    have hi1 : 0 ≤ (i : Int) / 8 := by omega
                    have hi2 : (i : Int) / 8 < 25 := by omega
                    have hi3 : ((i : Int) / 8).toNat = i / 8 := by omega
                    have hi4 : 0 ≤ 8 * ((i : Int) % 8) := by omega
                    have hi5 : 8 * ((i : Int) % 8) < 64 := by omega
                    have hi6 : (8 * ((i : Int) % 8)).toNat = 8 * (i % 8) := by omega
                    have ca := hra.cellAt (j := i / 8) (by omega)
                    have co := hro.cellAt h32
                    have fo := hro.free
                    have hbb : ((R (i / 8) : Nat) : Int) / 2 ^ (8 * (i % 8)) % 256 = ((outF R i : Nat) : Int) := byte_out R i
                    go_wp2
                    go_roundw
                    case rel =>
                      refine ⟨i + 1, by omega, by go_num, hro.store.to fun k _ => outN_succ R i k, hra.set (by omega), ?_⟩
                      repeat (with_reducible first | exact Below.refl _ _ | assumption | refine below_drewN ?_ _ | refine Below.drew ?_ | refine below_setRow' ?_ (by first | omega | (simp; done) | (simp; omega)) _ | refine Below.setCell ?_ (by first | omega | (simp; done) | (simp; omega)) _ | refine Below.alloc ?_ (by first | omega | (simp; done) | (simp; omega)) _ | refine Below.trans ?_ (Below.mono (by assumption) (by first | omega | (simp; done) | (simp; omega))))
                    case measure => simp [intOf]; omega
                  · have hmf : decide ((i : Int) < 32) = false := by simp; omega
                    obtain rfl : i = 32 := by omega
                    have hro' := hro.to (outN_all R)
                    have hcv := string_of (cap := 32) fun j hj => hro'.cellAt hj
                    clear hro
                    go_wp2
                    rw [Exit.noGoto_ret]
                    go_ret
                    refine ⟨by unfold digS; rw [hNe.out, hR.out]; rfl, ?_⟩
                    repeat (with_reducible first | exact Below.refl _ _ | assumption | refine below_drewN ?_ _ | refine Below.drew ?_ | refine below_setRow' ?_ (by first | omega | (simp; done) | (simp; omega)) _ | refine Below.setCell ?_ (by first | omega | (simp; done) | (simp; omega)) _ | refine Below.alloc ?_ (by first | omega | (simp; done) | (simp; omega)) _ | refine Below.trans ?_ (Below.mono (by assumption) (by first | omega | (simp; done) | (simp; omega))))
            · have hl1 : 136 < l := by have := hl.out; omega
              have hcn : ¬ c = 136 := by omega
              have hlz : (((l - 136 : Nat) : Int) == 0) = false := by
                rw [beq_eq_false_iff_ne]
                omega
              go_wp2_with (go_at_call 21; refine (permute_any a0 _ hF2 _ ha3 hT2 hra).mono ?_; rintro e wp ⟨rfl, hra2, hfr2⟩)
              go_roundw
              case rel =>
                refine ⟨q + 1, o + 136, l - 136, c - 136, by omega, by have := ho.out; omega, by have := hl.out; omega, by omega, rfl, ?_, hrb.fr hfr2 hgn, ?_⟩
                · rw [hst.out]
                  exact hra2
                · exact hbel.trans (hfr2.toBelow hbel.size (fun k hk => by omega))
              case measure => simp only [lenV]; omega
    · have hi0 : 0 < ((n : Nat) : Int) % 136 := by omega
      go_wp2_with (at_builtin; refine wpList_append_byte rfl (.tmp 16) (.tmp 17) rfl rfl (hown.alloc _) wr.heap.size 0 rfl ?c1 (by omega) (by first | omega | (simp; omega)) ?_)
      case c1 => simp
      intro v' w2 hown' hgrow
      have hown2 := hown'.to fun j _ => padA_more s hn1 j
      have hbel2 := grown_below (hown.alloc _) (hbel.alloc hbel.size _) hjs hgrow
      have hsz2 := hgrow.size
      have hBs2 : B ≤ w2.heap.size := by simp at hsz2; omega
      clear hown' hgrow hsz2 hst hrow hfz
      go_wp2
      go_roundw
      case rel => exact ⟨n + 1, by omega, by unfold padN at hn2 ⊢; omega, hown2, hBs2, hbel2⟩
      case measure =>
        obtain ⟨g', cap', rfl, _⟩ := hown2.parts (by omega)
        simp only [lenV]
        omega
end Go.Proofs.YtijidnhaijdfaaaGreatDoor
