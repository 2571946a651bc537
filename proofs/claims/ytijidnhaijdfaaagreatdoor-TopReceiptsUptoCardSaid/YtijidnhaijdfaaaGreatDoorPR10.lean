/-
  A word's short bytes, and the word of short bytes. Conditions: none.
-/
import Derived.Test.YtijidnhaijdfaaaGreatDoorPR2
import Derived.Test.YtijidnhaijdfaaaGreatDoorPR7
import Derived.Test.YtijidnhaijdfaaaGreatDoorPR9
namespace Go.Proofs.YtijidnhaijdfaaaGreatDoor
open Go.RowKit
set_option linter.unusedSimpArgs false
set_option linter.unusedVariables false

theorem orF_congr {f g : Nat → Nat} : ∀ {n : Nat}, (∀ k, k < n → f k = g k) → orF f n = orF g n
  | 0, _ => rfl
  | n + 1, h => by rw [orF_succ, orF_succ, orF_congr fun k hk => h k (by omega), h n (by omega)]
theorem byteN_list (s : Bs) (j : Nat) : byteN (bsS s) j = match s[j]? with | some b => b.toNat | none => 0 := by
  unfold byteN
  have hz := bsS_size s
  by_cases h : j < s.length
  · rw [dif_pos (by omega), List.getElem?_eq_getElem h]
    rfl
  · rw [dif_neg (by omega), List.getElem?_eq_none (by omega)]
theorem orF_valB : ∀ s : Bs, orF (byteR (bsS s)) s.length = valB s
  | [] => rfl
  | b :: s => by
    rw [List.length_cons, orF_succ]
    have h1 : orF (byteR (bsS (b :: s))) s.length = valB s := by
      rw [← orF_valB s]
      refine orF_congr fun k hk => ?_
      unfold byteR
      rw [bsS_size, bsS_size, List.length_cons, if_pos (by omega), if_pos hk, byteN_list, byteN_list, show s.length + 1 - 1 - k = (s.length - 1 - k) + 1 by omega, List.getElem?_cons_succ]
    have h2 : byteR (bsS (b :: s)) s.length = b.toNat := by
      unfold byteR
      rw [bsS_size, List.length_cons, if_pos (by omega), byteN_list, show s.length + 1 - 1 - s.length = 0 by omega]
      rfl
    rw [h1, h2, valB_cons]
    have h3 := valB_lt s
    have h4 : (256 : Nat) ^ s.length = 2 ^ (8 * s.length) := by rw [Nat.pow_mul]
    rw [h4] at h3 ⊢
    rw [Nat.mul_comm, Nat.or_comm, ← Nat.two_pow_add_eq_or_of_lt h3]
theorem foldl_push_list (l : List Int) : ∀ acc : ByteArray, (l.foldl (fun r n => r.push (UInt8.ofNat n.toNat)) acc).data.toList = acc.data.toList ++ l.map fun n => UInt8.ofNat n.toNat := by
  induction l with
  | nil => intro acc; simp
  | cons x l ih =>
    intro acc
    rw [List.foldl_cons, ih, List.map_cons]
    have e : ∀ b, (acc.push b).data.toList = acc.data.toList ++ [b] := fun b => Array.toList_push ..
    rw [e, List.append_assoc]
    rfl
theorem be_range (n : Nat) : ∀ k, be k n = (List.range k).map fun j => UInt8.ofNat (n / 256 ^ (k - 1 - j))
  | 0 => rfl
  | k + 1 => by
    rw [List.range_succ_eq_map, List.map_cons, List.map_map]
    show UInt8.ofNat (n / 256 ^ k) :: be k n = _
    rw [be_range n k]
    congr 1
    refine List.map_congr_left fun j hj => ?_
    show _ = UInt8.ofNat (n / 256 ^ (k + 1 - 1 - (j + 1)))
    rw [show k + 1 - 1 - (j + 1) = k - 1 - j by omega]
theorem bytesS_be (a : Nat) : (bytesS a).data.toList = be 32 a := by
  unfold bytesS
  rw [foldl_push_list, be_range]
  unfold bytesL
  rw [List.map_map]
  show [] ++ _ = _
  rw [List.nil_append]
  refine List.map_congr_left fun j hj => ?_
  show UInt8.ofNat ((byteOf a (31 - j) : Nat) : Int).toNat = UInt8.ofNat (a / 256 ^ (32 - 1 - j))
  rw [Int.toNat_natCast]
  apply UInt8.toNat_inj.1
  unfold byteOf
  simp
/-- A word's bytes, without zeros ahead. -/
def wordS (n : Nat) : Bs := (be 32 n).dropWhile (· == 0)
theorem wordS_len (n : Nat) : (wordS n).length ≤ 32 := by
  have := dropWhile_le (· == 0) (be 32 n)
  rw [be_length] at this
  exact this
theorem wordS_val {n : Nat} (h : n < Q256) : valB (wordS n) = n := by
  unfold wordS
  rw [valB_drop, valB_be, Nat.mod_eq_of_lt (by unfold Q256 at h; exact h)]
theorem wordS_head (n : Nat) (t : Bs) : wordS n ≠ 0 :: t := fun e => by
  have h := List.head?_dropWhile_not (p := (· == (0 : UInt8))) (l := be 32 n)
  unfold wordS at e
  rw [e] at h
  simp at h
end Go.Proofs.YtijidnhaijdfaaaGreatDoor
