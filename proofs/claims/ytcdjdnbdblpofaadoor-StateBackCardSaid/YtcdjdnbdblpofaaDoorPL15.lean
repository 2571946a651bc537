/-
  Bytes as a word: the contracts of word.From and of the document's From. Conditions: none.
-/
import Derived.WalkKit
import Derived.ProofKit
import Derived.WalkSpells
import Derived.Laws.StructEq
import Derived.Test.YtcdjdnbdblpofaaDoorProg
import Derived.Test.YtcdjdnbdblpofaaDoorPL14
import Derived.Deep.WholeRow
import Derived.Laws.BytesString
import Derived.OwnWalk
import Derived.Test.YtcdjdnbdblpofaaDoorFlow
import Derived.WalkMore
import Derived.Lib.Hide
namespace Go.Proofs.YtcdjdnbdblpofaaDoor
open Go.RowKit
attribute [local go_sem] leftBy
set_option linter.unusedSimpArgs false
set_option linter.unusedVariables false


/-- The number of the lowest n of the bytes f. -/
def orF (f : Nat → Nat) : Nat → Nat
  | 0 => 0
  | n + 1 => orF f n ||| f n * 2 ^ (8 * n)
/-- The number of the highest j of the first m of the bytes f. -/
def orD (f : Nat → Nat) (m : Nat) : Nat → Nat
  | 0 => 0
  | j + 1 => orD f m j ||| f (m - 1 - j) * 2 ^ (8 * (m - 1 - j))
theorem orF_zero (f : Nat → Nat) : orF f 0 = 0 := rfl
theorem orF_succ (f : Nat → Nat) (n : Nat) : orF f (n + 1) = orF f n ||| f n * 2 ^ (8 * n) := rfl
theorem orD_zero (f : Nat → Nat) (m : Nat) : orD f m 0 = 0 := rfl
theorem orD_succ (f : Nat → Nat) (m j : Nat) : orD f m (j + 1) = orD f m j ||| f (m - 1 - j) * 2 ^ (8 * (m - 1 - j)) := rfl

theorem byte_bit {b t : Nat} (h : b < 256) (ht : 8 ≤ t) : b.testBit t = false := Nat.testBit_lt_two_pow (Nat.lt_of_lt_of_le h (Nat.pow_le_pow_right (n := 2) (by decide) ht : 2 ^ 8 ≤ 2 ^ t))

theorem byte_at {b : Nat} (h : b < 256) (n t : Nat) : (b * 2 ^ (8 * n)).testBit t = (decide (t / 8 = n) && b.testBit (t % 8)) := by
  rw [Nat.testBit_mul_two_pow]
  by_cases h1 : t / 8 = n
  · rw [decide_eq_true (show t ≥ 8 * n by omega), decide_eq_true h1, show t - 8 * n = t % 8 by omega]
  · rw [decide_eq_false h1]
    by_cases h2 : t ≥ 8 * n
    · rw [byte_bit h (by omega)]
      simp
    · simp [h2]

theorem orF_bit {f : Nat → Nat} (hf : ∀ k, f k < 256) : ∀ n t, (orF f n).testBit t = (decide (t / 8 < n) && (f (t / 8)).testBit (t % 8))
  | 0, t => by simp [orF]
  | n + 1, t => by
    rw [orF_succ, Nat.testBit_or, orF_bit hf n, byte_at (hf n)]
    by_cases h : t / 8 = n
    · rw [h]
      simp
    · by_cases h2 : t / 8 < n
      · simp [h, h2, show t / 8 < n + 1 by omega]
      · simp [h, h2, show ¬ t / 8 < n + 1 by omega]

theorem orD_bit {f : Nat → Nat} (hf : ∀ k, f k < 256) (m : Nat) : ∀ j, j ≤ m → ∀ t, (orD f m j).testBit t = (decide (m - j ≤ t / 8 ∧ t / 8 < m) && (f (t / 8)).testBit (t % 8))
  | 0, _, t => by
    have : ¬ (m - 0 ≤ t / 8 ∧ t / 8 < m) := by omega
    simp only [orD, this, decide_false, Bool.false_and, Nat.zero_testBit]
  | j + 1, hj, t => by
    rw [orD_succ, Nat.testBit_or, orD_bit hf m j (by omega), byte_at (hf _)]
    by_cases h : t / 8 = m - 1 - j
    · rw [h]
      have h1 : m - (j + 1) ≤ m - 1 - j ∧ m - 1 - j < m := by omega
      have h2 : ¬ (m - j ≤ m - 1 - j ∧ m - 1 - j < m) := by omega
      simp [h1, h2]
    · have h1 : (m - (j + 1) ≤ t / 8 ∧ t / 8 < m) ↔ (m - j ≤ t / 8 ∧ t / 8 < m) := by omega
      simp only [h1, h, decide_false, Bool.false_and, Bool.or_false]

theorem orD_all {f : Nat → Nat} (hf : ∀ k, f k < 256) (m : Nat) : orD f m m = orF f m := by
  refine Nat.eq_of_testBit_eq fun t => ?_
  rw [orD_bit hf m m (Nat.le_refl _), orF_bit hf]
  congr 1
  rw [decide_eq_decide]
  omega

theorem orF_lt {f : Nat → Nat} (hf : ∀ k, f k < 256) {n : Nat} (h : n ≤ 32) : orF f n < Q256 := by
  rw [Q256_pow]
  refine Nat.lt_pow_two_of_testBit _ fun t ht => ?_
  rw [orF_bit hf]
  have : ¬ t / 8 < n := by omega
  simp [this]

theorem orD_lt {f : Nat → Nat} (hf : ∀ k, f k < 256) {m j : Nat} (h : m ≤ 32) (hj : j ≤ m) : orD f m j < Q256 := by
  rw [Q256_pow]
  refine Nat.lt_pow_two_of_testBit _ fun t ht => ?_
  rw [orD_bit hf m j hj]
  have : ¬ (m - j ≤ t / 8 ∧ t / 8 < m) := by omega
  rw [decide_eq_false this, Bool.false_and]

theorem byteOf_bit (a k t : Nat) : (byteOf a k).testBit t = (decide (t < 8) && a.testBit (8 * k + t)) := by
  unfold byteOf
  rw [show (256 : Nat) = 2 ^ 8 by decide, ← Nat.pow_mul, Nat.testBit_mod_two_pow, Nat.testBit_div_two_pow, Nat.add_comm t]

/-- A word is the number of its bytes. -/
theorem orF_word {a : Nat} (ha : a < Q256) {f : Nat → Nat} (hf : ∀ k, k < 32 → f k = byteOf a k) (hb : ∀ k, f k < 256) : orF f 32 = a := by
  refine Nat.eq_of_testBit_eq fun t => ?_
  rw [orF_bit hb]
  by_cases h : t < 256
  · rw [decide_eq_true (show t / 8 < 32 by omega), Bool.true_and, hf _ (by omega), byteOf_bit, decide_eq_true (show t % 8 < 8 by omega), Bool.true_and]
    congr 1
    omega
  · rw [decide_eq_false (show ¬ t / 8 < 32 by omega), Bool.false_and]
    exact (Nat.testBit_lt_two_pow (Nat.lt_of_lt_of_le (Q256_pow ▸ ha) (Nat.pow_le_pow_right (by decide) (by omega)))).symm

/-- One byte more, as it lies in its part. -/
theorem lb_or_byte {X b k j : Nat} (hb : b < 256) : lb (X ||| b * 2 ^ (8 * k)) j = if j = k / 8 then lb X j ||| b * 2 ^ (8 * (k % 8)) else lb X j := by
  refine Nat.eq_of_testBit_eq fun t => ?_
  have h0 : (lb (X ||| b * 2 ^ (8 * k)) j).testBit t = (decide (t < 64) && (X.testBit (64 * j + t) || (decide ((64 * j + t) / 8 = k) && b.testBit ((64 * j + t) % 8)))) := by
    rw [lb_testBit, Nat.testBit_or, byte_at hb]
  rw [h0]
  split
  · rename_i h
    rw [Nat.testBit_or, byte_at hb, lb_testBit]
    by_cases h64 : t < 64
    · have e1 : (64 * j + t) / 8 = k ↔ t / 8 = k % 8 := by omega
      have e2 : (64 * j + t) % 8 = t % 8 := by omega
      simp only [h64, decide_true, Bool.true_and, e1, e2]
    · have e1 : ¬ t / 8 = k % 8 := by omega
      simp only [h64, decide_false, Bool.false_and, e1, Bool.or_false]
  · rename_i h
    rw [lb_testBit]
    by_cases h64 : t < 64
    · have e1 : ¬ (64 * j + t) / 8 = k := by omega
      simp only [e1, decide_false, Bool.false_and, Bool.or_false]
    · simp only [h64, decide_false, Bool.false_and]

theorem or_byte_bits {X b k : Nat} (hb : b < 256) : bits .or .u64 ((lb X (k / 8) : Nat) : Int) (IntKind.u64.wrap ((b : Nat) * 2 ^ (8 * (k % 8)))) = ((lb (X ||| b * 2 ^ (8 * k)) (k / 8) : Nat) : Int) := by
  have h2 : b * 2 ^ (8 * (k % 8)) < 18446744073709551616 := by
    have h1 : 2 ^ (8 * (k % 8)) ≤ 2 ^ 56 := Nat.pow_le_pow_right (by decide) (by omega)
    calc b * 2 ^ (8 * (k % 8)) ≤ 255 * 2 ^ 56 := Nat.mul_le_mul (by omega) h1
      _ < 18446744073709551616 := by decide
  have h3 : IntKind.u64.wrap ((b : Int) * 2 ^ (8 * (k % 8))) = ((b * 2 ^ (8 * (k % 8)) : Nat) : Int) := by
    have e : ((b : Int) * 2 ^ (8 * (k % 8))) = ((b * 2 ^ (8 * (k % 8)) : Nat) : Int) := by push_cast; rfl
    have h4 : ∀ z : Nat, z < 18446744073709551616 → IntKind.u64.wrap (z : Int) = (z : Int) := fun z hz => IntWalk.u64_in _ (by omega)
    rw [e]
    exact h4 _ h2
  rw [h3, u64_or_nat _ _ (lb_lt _ _) h2, lb_or_byte hb, if_pos rfl]

theorem or_byte_row {t : TypeId} {W : World} {p X b k : Nat} (hb : b < 256) (hk : k < 32) (h : rowW t W p X) : rowW t (W.setCell ⟨p, k / 8, none⟩ (.int .u64 (lb (X ||| b * 2 ^ (8 * k)) (k / 8) : Nat))) p (X ||| b * 2 ^ (8 * k)) :=
  store_row (by omega) h fun i _ hij => by rw [lb_or_byte hb, if_neg hij]

/-- Byte j of a string, and byte k from its end. -/
def byteE (s : ByteArray) (j : Nat) : Nat := if h : j < s.size then s[j].toNat else 0
def byteR (s : ByteArray) (k : Nat) : Nat := if k < s.size then byteE s (s.size - 1 - k) else 0
theorem byteE_lt (s : ByteArray) (j : Nat) : byteE s j < 256 := by
  unfold byteE
  split
  · exact s[j].toNat_lt
  · decide
theorem byteR_lt (s : ByteArray) (k : Nat) : byteR s k < 256 := by
  unfold byteR
  split
  · exact byteE_lt _ _
  · decide

theorem index_str (s : ByteArray) (j : Nat) (hj : j < s.size) (w : World) : (Instr.index 9 (.string s) (.int .i64 (j : Nat))).run Tryd.prog w = .ok (.int .u8 (byteE s j : Nat)) w := by
  rw [run_index_string (h := Tryd.underlying9)]
  have h1 : 0 ≤ (j : Int) ∧ (j : Int) < s.size := by omega
  rw [dif_pos h1]
  unfold byteE
  rw [dif_pos hj]
  rfl

attribute [local irreducible] lb byteE byteR orF orD

set_option maxRecDepth 100000 in
set_option maxHeartbeats 4000000 in
/-- word.From. -/
theorem From_any (s : ByteArray) (hs : s.size ≤ maxLen) (w : World) :
    Calls Tryd.prog 36 #[.string s] w fun e w' => e = .returned (W4 (orF (byteR s) (min s.size 32))) ∧ Below w.heap.size w w' := by
  have hm : maxLen = 9223372036854775807 := rfl
  go_enter Tryd.func36, Tryd.ntmps36
  go_wp2
  go_step3
  go_wp2
  go_step3
  go_wp2
  go_loopw [4, 5] (fun q i wr => ∃ k m : Nat, k + m = s.size ∧ k ≤ 32 ∧ q = .int .i64 k ∧ i = .int .i64 ((m : Int) - 1) ∧ rowW 25 wr (w.heap.size + 1) (orF (byteR s) k) ∧ rowW 25 wr w.heap.size 0 ∧ Below w.heap.size w wr)
    (fun _ i _ => (intOf i + 1).toNat)
  case atStart =>
    refine ⟨0, s.size, by omega, by omega, rfl, by go_num, ?_, (rowW.new0 (by simp)).alloc _, ?_⟩
    · rw [orF_zero]
      exact rowW.new0 (by simp)
    · skip
      repeat (with_reducible first | exact Below.refl _ _ | assumption | refine below_drewN ?_ _ | refine Below.drew ?_ | refine Below.setCell ?_ (by first | omega | (simp; done) | (simp; omega)) _ | refine Below.alloc ?_ (by first | omega | (simp; done) | (simp; omega)) _ | refine Below.trans ?_ (Below.mono (by assumption) (by first | omega | (simp; done) | (simp; omega))))
  case round =>
    obtain ⟨k, m, hkm, hk, rfl, rfl, hrow, hres, hbel⟩ := hrel
    have hsz := hrow.lt
    have hrf := hrow.cells.2.2.2.2
    cases m with
    | zero =>
      obtain rfl : k = s.size := by omega
      have hrow := show rowW 25 wr (w.heap.size + 1) (orF (byteR s) (min s.size 32)) by rw [Nat.min_eq_left hk]; exact hrow
      generalize hR : orF (byteR s) (min s.size 32) = R at hrow
      replace hR := Lib.hid hR
      obtain ⟨t0, t1, t2, t3, tf⟩ := hrow.cells
      obtain ⟨z0, z1, z2, z3, zf⟩ := hres.cells
      clear hrow hrf hres
      go_wp2
      rw [Exit.noGoto_ret]
      refine bodyPost_ret (by simp only [results, Tryd.results36]; go_simp; rfl) rfl ⟨by rw [hR.out], ?_⟩
      repeat (with_reducible first | exact Below.refl _ _ | assumption | refine below_drewN ?_ _ | refine Below.drew ?_ | refine Below.setCell ?_ (by first | omega | (simp; done) | (simp; omega)) _ | refine Below.alloc ?_ (by first | omega | (simp; done) | (simp; omega)) _ | refine Below.trans ?_ (Below.mono (by assumption) (by first | omega | (simp; done) | (simp; omega))))
    | succ m =>
      have e1 : ((m + 1 : Nat) : Int) - 1 = (m : Int) := by omega
      rw [e1]
      by_cases h32 : k = 32
      · subst h32
        have hrow := show rowW 25 wr (w.heap.size + 1) (orF (byteR s) (min s.size 32)) by rw [Nat.min_eq_right (by omega)]; exact hrow
        generalize hR : orF (byteR s) (min s.size 32) = R at hrow
        replace hR := Lib.hid hR
        obtain ⟨t0, t1, t2, t3, tf⟩ := hrow.cells
        obtain ⟨z0, z1, z2, z3, zf⟩ := hres.cells
        clear hrow hrf hres
        go_wp2
        rw [Exit.noGoto_ret]
        refine bodyPost_ret (by simp only [results, Tryd.results36]; go_simp; rfl) rfl ⟨by rw [hR.out], ?_⟩
        repeat (with_reducible first | exact Below.refl _ _ | assumption | refine below_drewN ?_ _ | refine Below.drew ?_ | refine Below.setCell ?_ (by first | omega | (simp; done) | (simp; omega)) _ | refine Below.alloc ?_ (by first | omega | (simp; done) | (simp; omega)) _ | refine Below.trans ?_ (Below.mono (by assumption) (by first | omega | (simp; done) | (simp; omega))))
      · have hm2 : m < s.size := by omega
        have hix := fun W => index_str s m hm2 W
        have hbr : byteR s k = byteE s m := by unfold byteR; rw [if_pos (by omega), show s.size - 1 - k = m by omega]
        have hblt := byteE_lt s m
        have hor := or_byte_bits (X := orF (byteR s) k) (k := k) hblt
        have co := hrow.cellAt (j := k / 8) (by omega)
        have hi1 : 0 ≤ (k : Int) / 8 := by omega
        have hi2 : (k : Int) / 8 < 4 := by omega
        have hi3 : ((k : Int) / 8).toNat = k / 8 := by omega
        have hi4 : 0 ≤ 8 * ((k : Int) % 8) := by omega
        have hi5 : 8 * ((k : Int) % 8) < 64 := by omega
        have hi6 : (8 * ((k : Int) % 8)).toNat = 8 * (k % 8) := by omega
        go_wp2
        first | refine wp_flow (fun k => ([1, 1, 1, 1, 1, 1, 1, 1, 1, 1, 1, 1, 1, 1, 2] : List Nat).getD k 1) Dr _ (Dr.next _ _) (by kernel_rfl) (by kernel_rfl) ?_ | refine wp_flow (fun k => ([1, 1, 1, 1, 1, 1, 1, 1, 1, 1, 1, 1, 1, 1, 2] : List Nat).getD k 1) Dr _ (Dr.one _) (by kernel_rfl) (by kernel_rfl) ?_
        iterate 14 ((refine flow_quiet rfl rfl (fun K hK => ?_); apply Exists.intro; apply And.intro; (focus (rintro w' ⟨nn, rfl⟩; go_simp; (try go_bits); exact ⟨rfl, Dr.of _ _⟩)); go_simp; (try go_bits); refine hK _ ?_; clear hK K))
        (refine flow_eff rfl rfl (fun K hK => ?_); apply Exists.intro; apply Exists.intro; apply And.intro; (focus (rintro w' ⟨nn, rfl⟩; go_simp; (try go_bits); refine ⟨rfl, ?_⟩; with_reducible first | exact Dr.store _ _ _ _ | exact Dr.store4 _ _ _ _ _ _ _ _ _ _)); go_simp; (try go_bits); refine hK _ _ ?_; clear hK K)
        refine flow_nil ?_
        rintro w' ⟨nq, rfl⟩
        go_wp2
        go_roundw
        case rel =>
          refine ⟨k + 1, m, by omega, by omega, by go_num, rfl, ?_, (hres.set (by omega)).drewN _, ?_⟩
          · rw [orF_succ, hbr]
            exact (or_byte_row hblt (by omega) hrow).drewN _
          repeat (with_reducible first | exact Below.refl _ _ | assumption | refine below_drewN ?_ _ | refine Below.drew ?_ | refine Below.setCell ?_ (by first | omega | (simp; done) | (simp; omega)) _ | refine Below.alloc ?_ (by first | omega | (simp; done) | (simp; omega)) _ | refine Below.trans ?_ (Below.mono (by assumption) (by first | omega | (simp; done) | (simp; omega))))
        case measure => simp [intOf]
/-- The last 32 bytes of a string. -/
def lastS (s : ByteArray) : ByteArray := s.extract (s.size - 32) s.size
theorem lastS_size (s : ByteArray) : (lastS s).size = min s.size 32 := by
  unfold lastS
  rw [ByteArray.size_extract]
  omega
theorem lastS_at (s : ByteArray) {k : Nat} (hk : k < min s.size 32) : byteE (lastS s) ((lastS s).size - 1 - k) = byteR s k := by
  have h1 := lastS_size s
  unfold byteE byteR
  rw [dif_pos (by omega), if_pos (by omega)]
  unfold byteE
  rw [dif_pos (by omega)]
  have : (lastS s)[(lastS s).size - 1 - k]'(by omega) = s[s.size - 1 - k]'(by omega) := by
    have e : ∀ i (hi : i < (lastS s).size), (lastS s)[i] = s[s.size - 32 + i]'(by omega) := fun i hi => by
      unfold lastS
      exact ByteArray.getElem_extract _
    rw [e]
    congr 1
    omega
  rw [this]

theorem orD_congr {f g : Nat → Nat} {m : Nat} : ∀ {j}, j ≤ m → (∀ k, k < m → f k = g k) → orD f m j = orD g m j
  | 0, _, _ => by rw [orD_zero, orD_zero]
  | j + 1, hj, h => by rw [orD_succ, orD_succ, orD_congr (by omega) h, h _ (by omega)]


set_option maxRecDepth 100000 in
set_option maxHeartbeats 4000000 in
/-- The document's From. -/
theorem ref_From (s : ByteArray) (hs : s.size ≤ maxLen) (w : World) :
    Calls Tryd.prog 78 #[.string s] w fun e w' => e = .returned (W4 (orF (byteR s) (min s.size 32))) ∧ Below w.heap.size w w' := by
  have hm : maxLen = 9223372036854775807 := rfl
  have hL := lastS_size s
  have hlt : ∀ k, byteE (lastS s) ((lastS s).size - 1 - k) < 256 := fun k => byteE_lt _ _
  have hR : orD (fun k => byteE (lastS s) ((lastS s).size - 1 - k)) (lastS s).size (lastS s).size = orF (byteR s) (min s.size 32) := by
    rw [orD_congr (Nat.le_refl _) (fun k hk => lastS_at s (hL ▸ hk)), orD_all (byteR_lt s), hL]
  replace hR := Lib.hid hR
  have hex : s.extract (s.size - 32) s.size = lastS s := rfl
  by_cases h32 : 32 < s.size
  · have hx : ((s.size : Int) - 32).toNat = s.size - 32 := by omega
    go_enter Tryd.func78, Tryd.ntmps78
    go_wp2
    clear hx
    generalize lastS s = l at *
    clear hex
    have hlm : l.size ≤ 32 := by omega
    clear hL
    go_loopw [4] (fun i wr => ∃ j : Nat, j ≤ l.size ∧ i = .int .i64 j ∧ rowW 25 wr (w.heap.size + 1) (orD (fun k => byteE l (l.size - 1 - k)) l.size j) ∧ rowW 25 wr w.heap.size 0 ∧ Below w.heap.size w wr)
      (fun i _ => l.size - (intOf i).toNat)
    case atStart =>
      refine ⟨0, by omega, rfl, ?_, (rowW.new0 (by simp)).alloc _, ?_⟩
      · rw [orD_zero]
        exact rowW.new0 (by simp)
      · skip
        repeat (with_reducible first | exact Below.refl _ _ | assumption | refine below_drewN ?_ _ | refine Below.drew ?_ | refine Below.setCell ?_ (by first | omega | (simp; done) | (simp; omega)) _ | refine Below.alloc ?_ (by first | omega | (simp; done) | (simp; omega)) _ | refine Below.trans ?_ (Below.mono (by assumption) (by first | omega | (simp; done) | (simp; omega))))
    case round =>
      obtain ⟨j, hj, rfl, hrow, hres, hbel⟩ := hrel
      have hsz := hrow.lt
      have hrf := hrow.cells.2.2.2.2
      by_cases hjl : j < l.size
      · have hix := fun W => index_str l j hjl W
        obtain ⟨k, hk⟩ : ∃ k, k = l.size - 1 - j := ⟨_, rfl⟩
        have hb := orD_succ (fun k => byteE l (l.size - 1 - k)) l.size j
        rw [← hk] at hb
        simp only [show l.size - 1 - k = j by omega] at hb
        have hk32 : k < 32 := by omega
        have hblt := byteE_lt l j
        have hor := or_byte_bits (X := orD (fun k => byteE l (l.size - 1 - k)) l.size j) (k := k) hblt
        have hkI : (l.size : Int) - 1 - (j : Int) = (k : Int) := by omega
        have co := hrow.cellAt (j := k / 8) (by omega)
        have hi1 : 0 ≤ (k : Int) / 8 := by omega
        have hi2 : (k : Int) / 8 < 4 := by omega
        have hi3 : ((k : Int) / 8).toNat = k / 8 := by omega
        have hi4 : 0 ≤ 8 * ((k : Int) % 8) := by omega
        have hi5 : 8 * ((k : Int) % 8) < 64 := by omega
        have hi6 : (8 * ((k : Int) % 8)).toNat = 8 * (k % 8) := by omega
        replace hb := Lib.hid hb
        replace hk := Lib.hid hk
        go_wp2
        first | refine wp_flow (fun k => ([1, 1, 1, 1, 1, 1, 1, 1, 1, 1, 1, 1, 1, 1, 1, 1, 2] : List Nat).getD k 1) Dr _ (Dr.next _ _) (by kernel_rfl) (by kernel_rfl) ?_ | refine wp_flow (fun k => ([1, 1, 1, 1, 1, 1, 1, 1, 1, 1, 1, 1, 1, 1, 1, 1, 2] : List Nat).getD k 1) Dr _ (Dr.one _) (by kernel_rfl) (by kernel_rfl) ?_
        iterate 16 ((refine flow_quiet rfl rfl (fun K hK => ?_); apply Exists.intro; apply And.intro; (focus (rintro w' ⟨nn, rfl⟩; go_simp; (try go_bits); exact ⟨rfl, Dr.of _ _⟩)); go_simp; (try go_bits); refine hK _ ?_; clear hK K))
        (refine flow_eff rfl rfl (fun K hK => ?_); apply Exists.intro; apply Exists.intro; apply And.intro; (focus (rintro w' ⟨nn, rfl⟩; go_simp; (try go_bits); refine ⟨rfl, ?_⟩; with_reducible first | exact Dr.store _ _ _ _ | exact Dr.store4 _ _ _ _ _ _ _ _ _ _)); go_simp; (try go_bits); refine hK _ _ ?_; clear hK K)
        refine flow_nil ?_
        rintro w' ⟨nq, rfl⟩
        go_wp2
        go_roundw
        case rel =>
          refine ⟨j + 1, by omega, by go_num, ?_, (hres.set (by omega)).drewN _, ?_⟩
          · rw [hb.out]
            exact (or_byte_row hblt hk32 hrow).drewN _
          repeat (with_reducible first | exact Below.refl _ _ | assumption | refine below_drewN ?_ _ | refine Below.drew ?_ | refine Below.setCell ?_ (by first | omega | (simp; done) | (simp; omega)) _ | refine Below.alloc ?_ (by first | omega | (simp; done) | (simp; omega)) _ | refine Below.trans ?_ (Below.mono (by assumption) (by first | omega | (simp; done) | (simp; omega))))
        case measure => simp [intOf]; omega
      · obtain rfl : j = l.size := by omega
        rw [hR.out] at hrow
        clear hR
        generalize hR : orF (byteR s) (min s.size 32) = R at hrow
        replace hR := Lib.hid hR
        obtain ⟨t0, t1, t2, t3, tf⟩ := hrow.cells
        obtain ⟨z0, z1, z2, z3, zf⟩ := hres.cells
        clear hrow hrf hres
        go_wp2
        refine bodyPost_ret (by simp only [results, Tryd.results78]; go_simp; rfl) rfl ⟨by rw [hR.out], ?_⟩
        repeat (with_reducible first | exact Below.refl _ _ | assumption | refine below_drewN ?_ _ | refine Below.drew ?_ | refine Below.setCell ?_ (by first | omega | (simp; done) | (simp; omega)) _ | refine Below.alloc ?_ (by first | omega | (simp; done) | (simp; omega)) _ | refine Below.trans ?_ (Below.mono (by assumption) (by first | omega | (simp; done) | (simp; omega))))
  · have hx : s.extract 0 s.size = lastS s := by rw [← hex, show s.size - 32 = 0 by omega]
    go_enter Tryd.func78, Tryd.ntmps78
    go_wp2
    clear hx
    generalize lastS s = l at *
    clear hex
    have hlm : l.size ≤ 32 := by omega
    clear hL
    go_loopw [4] (fun i wr => ∃ j : Nat, j ≤ l.size ∧ i = .int .i64 j ∧ rowW 25 wr (w.heap.size + 1) (orD (fun k => byteE l (l.size - 1 - k)) l.size j) ∧ rowW 25 wr w.heap.size 0 ∧ Below w.heap.size w wr)
      (fun i _ => l.size - (intOf i).toNat)
    case atStart =>
      refine ⟨0, by omega, rfl, ?_, (rowW.new0 (by simp)).alloc _, ?_⟩
      · rw [orD_zero]
        exact rowW.new0 (by simp)
      · skip
        repeat (with_reducible first | exact Below.refl _ _ | assumption | refine below_drewN ?_ _ | refine Below.drew ?_ | refine Below.setCell ?_ (by first | omega | (simp; done) | (simp; omega)) _ | refine Below.alloc ?_ (by first | omega | (simp; done) | (simp; omega)) _ | refine Below.trans ?_ (Below.mono (by assumption) (by first | omega | (simp; done) | (simp; omega))))
    case round =>
      obtain ⟨j, hj, rfl, hrow, hres, hbel⟩ := hrel
      have hsz := hrow.lt
      have hrf := hrow.cells.2.2.2.2
      by_cases hjl : j < l.size
      · have hix := fun W => index_str l j hjl W
        obtain ⟨k, hk⟩ : ∃ k, k = l.size - 1 - j := ⟨_, rfl⟩
        have hb := orD_succ (fun k => byteE l (l.size - 1 - k)) l.size j
        rw [← hk] at hb
        simp only [show l.size - 1 - k = j by omega] at hb
        have hk32 : k < 32 := by omega
        have hblt := byteE_lt l j
        have hor := or_byte_bits (X := orD (fun k => byteE l (l.size - 1 - k)) l.size j) (k := k) hblt
        have hkI : (l.size : Int) - 1 - (j : Int) = (k : Int) := by omega
        have co := hrow.cellAt (j := k / 8) (by omega)
        have hi1 : 0 ≤ (k : Int) / 8 := by omega
        have hi2 : (k : Int) / 8 < 4 := by omega
        have hi3 : ((k : Int) / 8).toNat = k / 8 := by omega
        have hi4 : 0 ≤ 8 * ((k : Int) % 8) := by omega
        have hi5 : 8 * ((k : Int) % 8) < 64 := by omega
        have hi6 : (8 * ((k : Int) % 8)).toNat = 8 * (k % 8) := by omega
        replace hb := Lib.hid hb
        replace hk := Lib.hid hk
        go_wp2
        first | refine wp_flow (fun k => ([1, 1, 1, 1, 1, 1, 1, 1, 1, 1, 1, 1, 1, 1, 1, 1, 2] : List Nat).getD k 1) Dr _ (Dr.next _ _) (by kernel_rfl) (by kernel_rfl) ?_ | refine wp_flow (fun k => ([1, 1, 1, 1, 1, 1, 1, 1, 1, 1, 1, 1, 1, 1, 1, 1, 2] : List Nat).getD k 1) Dr _ (Dr.one _) (by kernel_rfl) (by kernel_rfl) ?_
        iterate 16 ((refine flow_quiet rfl rfl (fun K hK => ?_); apply Exists.intro; apply And.intro; (focus (rintro w' ⟨nn, rfl⟩; go_simp; (try go_bits); exact ⟨rfl, Dr.of _ _⟩)); go_simp; (try go_bits); refine hK _ ?_; clear hK K))
        (refine flow_eff rfl rfl (fun K hK => ?_); apply Exists.intro; apply Exists.intro; apply And.intro; (focus (rintro w' ⟨nn, rfl⟩; go_simp; (try go_bits); refine ⟨rfl, ?_⟩; with_reducible first | exact Dr.store _ _ _ _ | exact Dr.store4 _ _ _ _ _ _ _ _ _ _)); go_simp; (try go_bits); refine hK _ _ ?_; clear hK K)
        refine flow_nil ?_
        rintro w' ⟨nq, rfl⟩
        go_wp2
        go_roundw
        case rel =>
          refine ⟨j + 1, by omega, by go_num, ?_, (hres.set (by omega)).drewN _, ?_⟩
          · rw [hb.out]
            exact (or_byte_row hblt hk32 hrow).drewN _
          repeat (with_reducible first | exact Below.refl _ _ | assumption | refine below_drewN ?_ _ | refine Below.drew ?_ | refine Below.setCell ?_ (by first | omega | (simp; done) | (simp; omega)) _ | refine Below.alloc ?_ (by first | omega | (simp; done) | (simp; omega)) _ | refine Below.trans ?_ (Below.mono (by assumption) (by first | omega | (simp; done) | (simp; omega))))
        case measure => simp [intOf]; omega
      · obtain rfl : j = l.size := by omega
        rw [hR.out] at hrow
        clear hR
        generalize hR : orF (byteR s) (min s.size 32) = R at hrow
        replace hR := Lib.hid hR
        obtain ⟨t0, t1, t2, t3, tf⟩ := hrow.cells
        obtain ⟨z0, z1, z2, z3, zf⟩ := hres.cells
        clear hrow hrf hres
        go_wp2
        refine bodyPost_ret (by simp only [results, Tryd.results78]; go_simp; rfl) rfl ⟨by rw [hR.out], ?_⟩
        repeat (with_reducible first | exact Below.refl _ _ | assumption | refine below_drewN ?_ _ | refine Below.drew ?_ | refine Below.setCell ?_ (by first | omega | (simp; done) | (simp; omega)) _ | refine Below.alloc ?_ (by first | omega | (simp; done) | (simp; omega)) _ | refine Below.trans ?_ (Below.mono (by assumption) (by first | omega | (simp; done) | (simp; omega))))
end Go.Proofs.YtcdjdnbdblpofaaDoor
