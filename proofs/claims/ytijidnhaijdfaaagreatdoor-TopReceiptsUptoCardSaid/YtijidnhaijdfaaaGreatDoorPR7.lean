/-
  Texts of one proof, one behind the other. Conditions: each text's own line says them.
-/
import Derived.Test.YtijidnhaijdfaaaGreatDoorPR5
import Derived.Test.YtijidnhaijdfaaaGreatDoorKShelf
import Derived.Test.YtijidnhaijdfaaaGreatDoorPR6
import Derived.Laws.BytesString

/- Numbers as bytes, and back: Number, Value. Conditions: none. -/
namespace Go.Proofs.YtijidnhaijdfaaaGreatDoor
open Go.RowKit
attribute [local go_sem] leftBy leaves
set_option linter.unusedSimpArgs false
set_option linter.unusedVariables false

theorem fold_push : ∀ (l : Bs) (acc : ByteArray), (l.map fun b => ((b.toNat : Nat) : Int)).foldl (fun r n => r.push (UInt8.ofNat n.toNat)) acc = ⟨acc.data ++ l.toArray⟩
  | [], acc => by simp
  | b :: l, acc => by
    rw [List.map_cons, List.foldl_cons, fold_push l]
    have : UInt8.ofNat ((b.toNat : Nat) : Int).toNat = b := by simp
    rw [this]
    show (⟨acc.data.push b ++ l.toArray⟩ : ByteArray) = _
    congr 1
    apply Array.toList_inj.1
    simp
/-- Bytes in a row, as a text. -/
theorem string_bs {W : World} {k o cap : Nat} (l : Bs) (hc : ∀ j b, l[j]? = some b → W.cell? ⟨k, o + j, none⟩ = some (.int .u8 (b.toNat : Nat))) : (convert 60 9 (.slice (some ⟨k, o, none⟩) l.length cap)).run Tryz.prog W = .ok (.string (bsS l)) W := by
  rw [run_convert_bytes_string W 60 9 5 _ _ _ Tryz.underlying60 Tryz.underlying5 Tryz.underlying9]
  have hadd : ∀ q o j : Nat, (⟨q, o, none⟩ : Addr).add j = ⟨q, o + j, none⟩ := fun q o j => by unfold Addr.add; split <;> simp_all
  have h := run_loadCells_list (P := Tryz.prog) W ⟨k, o, none⟩ ((l.map fun b => ((b.toNat : Nat) : Int)).map (Value.int .u8)) (fun j v hv => by
    rw [hadd]
    simp only [List.getElem?_map, Option.map_eq_some_iff] at hv
    obtain ⟨x, ⟨b, hb, rfl⟩, rfl⟩ := hv
    exact hc j b hb)
  rw [List.length_map, List.length_map] at h
  have := run_bytesToString W ⟨k, o, none⟩ l.length cap _ h
  rw [this, fold_push]
  simp [bsS]
theorem be_get : ∀ (k n j : Nat), j < k → (be k n)[j]? = some (UInt8.ofNat (n / 256 ^ (k - 1 - j)))
  | k + 1, n, 0, _ => by simp [be]
  | k + 1, n, j + 1, h => by
    show (be k n)[j]? = _
    rw [be_get k n j (by omega), show k + 1 - 1 - (j + 1) = k - 1 - j by omega]

set_option maxRecDepth 100000 in
set_option maxHeartbeats 8000000 in
theorem Number_any (n : Nat) (hn : n < 18446744073709551616) (W : World) : Calls Tryz.prog 14 #[.int .u64 (n : Nat)] W fun e w' => e = .returned (.string (bsS (num n))) ∧ Below W.heap.size W w' := by
  have cT : ∀ w, Calls Tryz.prog 34 #[.string (bsS (be 8 n)), .string ⟨#[0]⟩] w fun e w' => e = .returned (.string (bsS (num n))) ∧ w' = w := fun w => strings_TrimLeft_one (bsS (be 8 n)) 0 (by decide) w
  have b1 : Below W.heap.size W (W.alloc (.cells #[.int .u8 0, .int .u8 0, .int .u8 0, .int .u8 0, .int .u8 0, .int .u8 0, .int .u8 0, .int .u8 0] 86)) := (Below.refl _ W).alloc (Nat.le_refl _) _
  have h0 : rowN .u8 8 86 (W.alloc (.cells #[.int .u8 0, .int .u8 0, .int .u8 0, .int .u8 0, .int .u8 0, .int .u8 0, .int .u8 0, .int .u8 0] 86)) W.heap.size (fun _ => 0) := heap_new rfl
  go_enter Tryz.func14, Tryz.ntmps14
  go_wp2
  generalize W.alloc (.cells #[.int .u8 0, .int .u8 0, .int .u8 0, .int .u8 0, .int .u8 0, .int .u8 0, .int .u8 0, .int .u8 0] 86) = W1 at *
  go_loopw [5] (fun v wr => ∃ i : Nat, i ≤ 8 ∧ v = .int .i64 (i : Nat) ∧ rowN .u8 8 86 wr W.heap.size (fun j => if j < i then n / 256 ^ (7 - j) % 256 else 0) ∧ Below W.heap.size W wr) (fun v _ => 8 - (intOf v).toNat)
  case atStart => exact ⟨0, Nat.zero_le _, rfl, h0, b1⟩
  case round =>
    obtain ⟨i, hi, rfl, hrow, hbel⟩ := hrel
    by_cases h8 : i < 8
    · have h8i : (i : Int) < 8 := by omega
      have hs1 : 0 ≤ 56 - 8 * (i : Int) := by omega
      have hs2 : 56 - 8 * (i : Int) < 64 := by omega
      have hs3 : (56 - 8 * (i : Int)).toNat = 8 * (7 - i) := by omega
      have ca := hrow.cellAt (j := i) h8
      have fa := hrow.free
      have hP : (2 : Nat) ^ (8 * (7 - i)) = 256 ^ (7 - i) := by rw [Nat.pow_mul]
      have hcv : ((n : Nat) : Int) / 2 ^ (8 * (7 - i)) % 256 = ((n / 256 ^ (7 - i) % 256 : Nat) : Int) := by
        rw [← hP, Int.natCast_emod, Int.natCast_ediv, Int.natCast_pow]
        rfl
      go_wp2
      have hv : ((n : Nat) : Int) / 256 ^ (7 - i) % 256 = ((n / 256 ^ (7 - i) % 256 : Nat) : Int) := by
        rw [Int.natCast_emod, Int.natCast_ediv, Int.natCast_pow]
        rfl
      rw [hv]
      refine ⟨⟨i + 1, by omega, by go_num, (hrow.store (j := i) (b := n / 256 ^ (7 - i) % 256)).to fun j _ => ?_, hbel.setCell (Nat.le_refl _) _⟩, by simp [intOf]; omega⟩
      by_cases e : j = i
      · subst e
        rw [if_pos rfl, if_pos (by omega)]
      · rw [if_neg e]
        by_cases e2 : j < i
        · rw [if_pos e2, if_pos (by omega)]
        · rw [if_neg e2, if_neg (by omega)]
    · obtain rfl : i = 8 := by omega
      have hcs := fun cap => string_bs (W := wr) (k := W.heap.size) (o := 0) (cap := cap) (be 8 n) (fun j b hb => by
        have hj : j < 8 := by
          have := (List.getElem?_eq_some_iff.1 hb).1
          rw [be_length] at this
          exact this
        rw [be_get 8 n j hj] at hb
        injection hb with hb
        subst hb
        rw [Nat.zero_add, hrow.cellAt hj, if_pos hj]
        simp)
      rw [be_length] at hcs
      clear hrow
      go_wp2_with (go_at_call 34; refine (cT _).mono ?_; rintro e w' ⟨rfl, rfl⟩)
      refine bodyPost_ret (by simp only [results, Tryz.results14]; go_simp; try rfl) rfl ⟨rfl, hbel⟩
end Go.Proofs.YtijidnhaijdfaaaGreatDoor

/- Bytes as a number: Value; and a frame: framed. Conditions: none. -/
namespace Go.Proofs.YtijidnhaijdfaaaGreatDoor
open Go.RowKit
attribute [local go_sem] leftBy leaves
set_option linter.unusedSimpArgs false
set_option linter.unusedVariables false

theorem index_bs (s : Bs) (j : Nat) (b : UInt8) (hb : s[j]? = some b) (w : World) : (Instr.index 9 (.string (bsS s)) (.int .i64 (j : Nat))).run Tryz.prog w = .ok (.int .u8 (b.toNat : Nat)) w := by
  rw [run_index_string (h := Tryz.underlying9)]
  have hj : j < s.length := (List.getElem?_eq_some_iff.1 hb).1
  have h1 : 0 ≤ (j : Int) ∧ (j : Int) < (bsS s).size := by rw [bsS_size]; omega
  rw [dif_pos h1]
  have : s[j] = b := (List.getElem?_eq_some_iff.1 hb).2
  subst this
  rfl
theorem valB_take {s : Bs} {i : Nat} {b : UInt8} (h : s[i]? = some b) : valB (s.take (i + 1)) = valB (s.take i) * 256 + b.toNat := by
  have hi := (List.getElem?_eq_some_iff.1 h).1
  unfold valB
  rw [List.take_succ_eq_append_getElem hi, (List.getElem?_eq_some_iff.1 h).2, List.foldl_append]
  rfl
theorem valB_lt : ∀ s : Bs, valB s < 256 ^ s.length
  | [] => by simp [valB]
  | b :: s => by
    have ih := valB_lt s
    have hb := b.toNat_lt
    rw [valB_cons, List.length_cons, Nat.pow_succ]
    have : b.toNat * 256 ^ s.length ≤ 255 * 256 ^ s.length := Nat.mul_le_mul_right _ (by omega)
    omega
theorem shl_or {x b : Nat} (hb : b < 256) : x * 256 ||| b = x * 256 + b := by
  have := Nat.two_pow_add_eq_or_of_lt (i := 8) (b := b) (by omega) x
  rw [show 2 ^ 8 * x = x * 256 by omega] at this
  exact this.symm
/-- Right as a number: at most eight bytes, no zero ahead. -/
def okNum (s : Bs) : Prop := s.length ≤ 8 ∧ ∀ t, s ≠ 0 :: t
theorem num_ok (n : Nat) : okNum (num n) := ⟨num_len n, fun t h => num_head h rfl⟩
theorem hasPrefix_zero (s : Bs) : Lib.hasPrefix s [0] = (match s with | b :: _ => b == 0 | [] => false) := by
  unfold Lib.hasPrefix
  cases s with
  | nil => rfl
  | cons b t =>
    show ((0 : UInt8) == b && true) = (b == 0)
    rw [Bool.and_true, Bool.eq_iff_iff, beq_iff_eq, beq_iff_eq]
    exact eq_comm

set_option maxRecDepth 100000 in
set_option maxHeartbeats 8000000 in
theorem Value_any (s : Bs) (hs : okNum s) (W : World) : Calls Tryz.prog 27 #[.string (bsS s)] W fun e w' => e = .returned (.tuple #[.int .u64 (valB s : Nat), .int .i64 0]) ∧ Below W.heap.size W w' := by
  have hz := bsS_size s
  have hl8 : s.length ≤ 8 := hs.1
  have hl9 : (s.length : Int) ≤ 8 := by omega
  have cP : ∀ w, Calls Tryz.prog 49 #[.string (bsS s), .string ⟨#[0]⟩] w fun e w' => e = .returned (.bool false) ∧ w' = w := fun w => by
    have h := strings_HasPrefix (bsS s) ⟨#[0]⟩ w
    have e : Lib.hasPrefix (bsS s).data.toList (⟨#[0]⟩ : ByteArray).data.toList = false := by
      show Lib.hasPrefix s [0] = false
      rw [hasPrefix_zero]
      cases s with
      | nil => rfl
      | cons b t =>
        have : b ≠ 0 := fun e => hs.2 t (by rw [e])
        simpa using this
    rw [e] at h
    exact h
  go_enter Tryz.func27, Tryz.ntmps27
  go_wp2_with (go_at_call 49; refine (cP _).mono ?_; rintro e w' ⟨rfl, rfl⟩)
  obtain ⟨wo, hwo⟩ : ∃ wo : World, wo = w' := ⟨_, rfl⟩
  go_loopw [4, 15] (fun v x wr => ∃ i : Nat, i ≤ s.length ∧ x = .int .i64 (i : Nat) ∧ v = .int .u64 (valB (s.take i) : Nat) ∧ wr = wo) (fun _ x _ => s.length - (intOf x).toNat)
  case atStart => exact ⟨0, Nat.zero_le _, rfl, rfl, hwo.symm⟩
  case round =>
    subst hwo
    obtain ⟨i, hi, rfl, rfl, rfl⟩ := hrel
    by_cases hli : i < s.length
    · obtain ⟨b, hb⟩ : ∃ b, s[i]? = some b := ⟨_, List.getElem?_eq_getElem hli⟩
      have hx := fun w => index_bs s i b hb w
      have hv := valB_take hb
      have hlt := valB_lt (s.take i)
      rw [List.length_take, Nat.min_eq_left (by omega)] at hlt
      have hp : (256 : Nat) ^ i ≤ 256 ^ 7 := Nat.pow_le_pow_right (by decide) (by omega)
      have hp7 : (256 : Nat) ^ 7 = 72057594037927936 := by decide
      have hb8 := b.toNat_lt
      generalize valB (s.take i) = x at *
      go_wp2
      have hor : bits .or .u64 (((x : Nat) : Int) * 256) ((b.toNat : Nat) : Int) = ((valB (s.take (i + 1)) : Nat) : Int) := by
        have e : (((x : Nat) : Int) * 256) = ((x * 256 : Nat) : Int) := by push_cast; rfl
        rw [e, u64_orN (by unfold M64; omega) (by unfold M64; omega), shl_or hb8, hv]
      exact ⟨⟨i + 1, by omega, by go_num, by rw [hor], trivial⟩, by simp [intOf]; omega⟩
    · obtain rfl : i = s.length := by omega
      rw [List.take_length]
      go_wp2
      refine bodyPost_ret (by simp only [results, Tryz.results27]; go_simp; try rfl) rfl ⟨rfl, Below.refl _ _⟩

theorem head_bs (x c : Nat) (hc : x = c) (h : c < 256) (v : Int) (hv : v = (x : Int)) (w : World) : (convert 60 9 (.slice (some ⟨w.heap.size, 0, none⟩) 1 1)).run Tryz.prog (w.alloc (.cells #[.int .u8 v] 5)) = .ok (.string (bsS [UInt8.ofNat c])) (w.alloc (.cells #[.int .u8 v] 5)) := by
  have := string_bs (W := w.alloc (.cells #[.int .u8 v] 5)) (k := w.heap.size) (o := 0) (cap := 1) [UInt8.ofNat c] (fun j b hb => by
    have hj : j = 0 := by
      have := (List.getElem?_eq_some_iff.1 hb).1
      simp at this
      omega
    subst hj
    have hb' : b = UInt8.ofNat c := by simpa using hb.symm
    subst hb' hv hc
    have hh : (w.alloc (.cells #[.int .u8 ((x : Nat) : Int)] 5)).heap[w.heap.size]? = _ := heap_new rfl
    have e : (UInt8.ofNat x).toNat = x := by simp; omega
    rw [e]
    show (match (w.alloc (.cells #[.int .u8 ((x : Nat) : Int)] 5)).heap[w.heap.size]? with | some (.cells c _ _) => c[0 + 0]? | _ => none) = _
    rw [hh]
    rfl)
  exact this
theorem cat_bs (a b : Bs) : bsS a ++ bsS b = bsS (a ++ b) := by
  show (⟨_⟩ : ByteArray) = _
  simp [bsS]
set_option maxRecDepth 100000 in
set_option maxHeartbeats 8000000 in
theorem framed_any (s : Bs) (f : Nat) (hf : f = 128 ∨ f = 192) (hs : s.length ≤ 4000000) (W : World) : Calls Tryz.prog 52 #[.string (bsS s), .int .u8 (f : Nat)] W fun e w' => e = .returned (.string (bsS (framed f s))) ∧ Below W.heap.size W w' := by
  have hz := bsS_size s
  have hl9 : (s.length : Int) ≤ 4000000 := by omega
  have cN := fun w => Number_any s.length (by omega) w
  unfold framed
  by_cases h : s.length < 56
  · rw [if_pos h]
    have hfl : (f + s.length : Nat) < 256 := by omega
    have hcv := fun w => head_bs (f + s.length) (f + s.length) rfl hfl ((f : Int) + (s.length : Int)) (by push_cast; rfl) w
    generalize UInt8.ofNat (f + s.length) = hd at *
    have hc1 := cat_bs [hd] s
    have hz1 := bsS_size [hd]
    rw [List.length_singleton] at hz1
    go_enter Tryz.func52, Tryz.ntmps52
    go_wp2
    refine bodyPost_ret (by simp only [results, Tryz.results52]; go_simp; try rfl) rfl ⟨rfl, (Below.refl _ W).alloc (Nat.le_refl _) _⟩
  · rw [if_neg h]
    have hnz := bsS_size (num s.length)
    have hnl := num_len s.length
    have hfl : (f + 55 + (num s.length).length : Nat) < 256 := by omega
    have hcv := fun w => head_bs (f + 55 + (num s.length).length) (f + 55 + (num s.length).length) rfl hfl ((f : Int) + 55 + ((num s.length).length : Int)) (by push_cast; rfl) w
    generalize UInt8.ofNat (f + 55 + (num s.length).length) = hd at *
    have hc1 : bsS [hd] ++ bsS (num s.length) = bsS (hd :: num s.length) := cat_bs [hd] (num s.length)
    have hc2 : bsS (hd :: num s.length) ++ bsS s = bsS (hd :: (num s.length ++ s)) := cat_bs (hd :: num s.length) s
    have hz1 := bsS_size [hd]
    have hz2 := bsS_size (hd :: num s.length)
    rw [List.length_cons] at hz2
    rw [List.length_singleton] at hz1
    go_enter Tryz.func52, Tryz.ntmps52
    go_wp2_with (go_at_call 14; refine (cN _).mono ?_; rintro e w' ⟨rfl, hb⟩)
    refine bodyPost_ret (by simp only [results, Tryz.results52]; go_simp; try rfl) rfl ⟨rfl, hb.alloc hb.size _⟩
end Go.Proofs.YtijidnhaijdfaaaGreatDoor
