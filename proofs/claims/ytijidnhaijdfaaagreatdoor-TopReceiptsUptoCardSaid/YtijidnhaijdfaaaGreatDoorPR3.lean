/-
  Texts of one proof, one behind the other. Conditions: each text's own line says them.
-/
import Derived.Test.YtijidnhaijdfaaaGreatDoorBase

/- Things and their bytes, by definition: numbers, frames, lists in lists; what stands at the head of the bytes. Conditions: none. -/
namespace Go.Proofs.YtijidnhaijdfaaaGreatDoor
set_option linter.unusedVariables false

abbrev Bs := List UInt8
/-- n's last k bytes, the highest first. -/
def be : Nat → Nat → Bs
  | 0, _ => []
  | k + 1, n => UInt8.ofNat (n / 256 ^ k) :: be k n
theorem be_length : ∀ k n, (be k n).length = k
  | 0, _ => rfl
  | k + 1, n => by
    show (be k n).length + 1 = _
    rw [be_length k n]
/-- Bytes as a number, the highest first. -/
def valB (s : Bs) : Nat := s.foldl (fun n b => n * 256 + b.toNat) 0
theorem valB_fold : ∀ (s : Bs) (a : Nat), s.foldl (fun n b => n * 256 + b.toNat) a = a * 256 ^ s.length + valB s
  | [], a => by simp [valB]
  | b :: s, a => by
    unfold valB
    rw [List.foldl_cons, List.foldl_cons, valB_fold s, valB_fold s (0 * 256 + b.toNat), List.length_cons, Nat.pow_succ]
    rw [Nat.add_mul, Nat.add_mul, Nat.mul_assoc, Nat.mul_comm 256]
    omega
theorem valB_cons (b : UInt8) (s : Bs) : valB (b :: s) = b.toNat * 256 ^ s.length + valB s := by
  show (b :: s).foldl _ 0 = _
  rw [List.foldl_cons, valB_fold]
  simp
theorem valB_be : ∀ k n, valB (be k n) = n % 256 ^ k
  | 0, n => by simp [be, valB, Nat.mod_one]
  | k + 1, n => by
    show valB (UInt8.ofNat (n / 256 ^ k) :: be k n) = _
    rw [valB_cons, valB_be k n, be_length, Nat.pow_succ, Nat.mod_mul]
    have : (UInt8.ofNat (n / 256 ^ k)).toNat = n / 256 ^ k % 256 := by simp
    rw [this, Nat.mul_comm]
    omega
theorem valB_drop : ∀ s : Bs, valB (s.dropWhile (· == 0)) = valB s
  | [] => rfl
  | b :: s => by
    rw [List.dropWhile_cons]
    split
    · rename_i h
      have hb : b = 0 := by simpa using h
      rw [valB_drop s, valB_cons, hb]
      simp
    · rfl
/-- A number's bytes, without zeros ahead. -/
def num (n : Nat) : Bs := (be 8 n).dropWhile (· == 0)
theorem valB_num {n : Nat} (h : n < 256 ^ 8) : valB (num n) = n := by
  unfold num
  rw [valB_drop, valB_be, Nat.mod_eq_of_lt h]
theorem dropWhile_le : ∀ (p : UInt8 → Bool) (s : Bs), (s.dropWhile p).length ≤ s.length
  | _, [] => Nat.le_refl _
  | p, b :: s => by
    rw [List.dropWhile_cons]
    split
    · have := dropWhile_le p s
      rw [List.length_cons]
      omega
    · exact Nat.le_refl _
theorem num_len (n : Nat) : (num n).length ≤ 8 := by
  have := dropWhile_le (· == 0) (be 8 n)
  rw [be_length] at this
  exact this
theorem dropWhile_head : ∀ (p : UInt8 → Bool) (s : Bs) (b : UInt8) (t : Bs), s.dropWhile p = b :: t → p b = false
  | _, [], b, t, h => by cases h
  | p, c :: s, b, t, h => by
    rw [List.dropWhile_cons] at h
    split at h
    · exact dropWhile_head p s b t h
    · rename_i hc
      injection h with h1 h2
      subst h1
      simpa using hc
theorem num_head {n : Nat} {b : UInt8} {t : Bs} (h : num n = b :: t) : b ≠ 0 := by
  have := dropWhile_head _ _ _ _ h
  simpa using this
theorem num_pos {n : Nat} (h : 0 < n) (h8 : n < 256 ^ 8) : 0 < (num n).length := by
  rcases Nat.eq_zero_or_pos (num n).length with hz | hz
  · have := valB_num h8
    rw [List.eq_nil_of_length_eq_zero hz] at this
    simp [valB] at this
    omega
  · exact hz

/-- A thing: a text, or a list of things. -/
inductive It where
  | text (s : Bs)
  | list (l : List It)
/-- A frame's head, and what is framed. -/
def framed (f : Nat) (s : Bs) : Bs := if s.length < 56 then UInt8.ofNat (f + s.length) :: s else UInt8.ofNat (f + 55 + (num s.length).length) :: (num s.length ++ s)
mutual
/-- The bytes of a thing; of things. -/
def enc : It → Bs
  | .text s => match s with
    | [b] => if b < 128 then [b] else framed 128 [b]
    | s => framed 128 s
  | .list l => framed 192 (encs l)
def encs : List It → Bs
  | [] => []
  | x :: l => enc x ++ encs l
end
mutual
/-- How deep lists lie in lists. -/
def dep : It → Nat
  | .text _ => 0
  | .list l => deps l + 1
def deps : List It → Nat
  | [] => 0
  | x :: l => max (dep x) (deps l)
end
theorem encs_append : ∀ (l m : List It), encs (l ++ m) = encs l ++ encs m
  | [], m => by simp [encs]
  | x :: l, m => by simp [encs, encs_append l m]
theorem encs_one (x : It) : encs [x] = enc x := by simp [encs]
/-- What a frame holds. -/
def pay : It → Bs
  | .text s => s
  | .list l => encs l
def isL : It → Bool
  | .text _ => false
  | .list _ => true
/-- The shapes that a thing's bytes have. -/
inductive Shape : Bs → It → Prop where
  | byte (b : UInt8) (h : b.toNat < 128) : Shape [b] (.text [b])
  | short (x : It) (f : Nat) (hf : f = if isL x then 192 else 128) (h : (pay x).length < 56) (h1 : isL x = false → ∀ b, pay x = [b] → 128 ≤ b.toNat) : Shape (UInt8.ofNat (f + (pay x).length) :: pay x) x
  | long (x : It) (f : Nat) (hf : f = if isL x then 192 else 128) (h : 56 ≤ (pay x).length) : Shape (UInt8.ofNat (f + 55 + (num (pay x).length).length) :: (num (pay x).length ++ pay x)) x
theorem shape_framed (x : It) (f : Nat) (hf : f = if isL x then 192 else 128) (h1 : isL x = false → ∀ b, pay x = [b] → 128 ≤ b.toNat) : Shape (framed f (pay x)) x := by
  unfold framed
  split
  · rename_i h
    exact .short x f hf h h1
  · rename_i h
    exact .long x f hf (by omega)
theorem shape (x : It) : Shape (enc x) x := by
  cases x with
  | list l =>
    show Shape (framed 192 (encs l)) (.list l)
    exact shape_framed (.list l) 192 rfl fun h => by cases h
  | text s =>
    match s with
    | [] => exact shape_framed (.text []) 128 rfl fun _ b h => by cases h
    | [b] =>
      show Shape (if b < 128 then [b] else framed 128 [b]) _
      split
      · rename_i h
        exact .byte b (by simpa [UInt8.lt_iff_toNat_lt] using h)
      · rename_i h
        refine shape_framed (.text [b]) 128 rfl fun _ c hc => ?_
        injection hc with hc _
        subst hc
        have : ¬ b.toNat < 128 := by simpa [UInt8.lt_iff_toNat_lt] using h
        omega
    | a :: b :: t => exact shape_framed (.text (a :: b :: t)) 128 rfl fun _ c hc => by cases hc
theorem enc_pos (x : It) : 0 < (enc x).length := by
  have h := shape x
  generalize enc x = s at *
  cases h <;> simp
end Go.Proofs.YtijidnhaijdfaaaGreatDoor

/- Half bytes, paths and their forms, by definition. Conditions: none. -/
namespace Go.Proofs.YtijidnhaijdfaaaGreatDoor
set_option linter.unusedVariables false

theorem u8_of {n : Nat} (h : n < 256) : (UInt8.ofNat n).toNat = n := by rw [UInt8.toNat_ofNat']; exact Nat.mod_eq_of_lt h
/-- The half bytes of bytes. -/
def halves : Bs → Bs
  | [] => []
  | b :: s => UInt8.ofNat (b.toNat / 16) :: UInt8.ofNat (b.toNat % 16) :: halves s
theorem halves_length : ∀ s : Bs, (halves s).length = 2 * s.length
  | [] => rfl
  | b :: s => by rw [halves, List.length_cons, List.length_cons, List.length_cons, halves_length s]; omega
/-- All are half bytes. -/
def nib (p : Bs) : Prop := ∀ h ∈ p, h.toNat < 16
theorem nib_halves : ∀ s : Bs, nib (halves s)
  | [], h, hh => by cases hh
  | b :: s, h, hh => by
    rw [halves, List.mem_cons, List.mem_cons] at hh
    have hb := b.toNat_lt
    rcases hh with rfl | rfl | hh
    · rw [u8_of (by omega)]; omega
    · rw [u8_of (by omega)]; omega
    · exact nib_halves s h hh
theorem nib.tail {h : UInt8} {p : Bs} (hn : nib (h :: p)) : nib p := fun x hx => hn x (List.mem_cons_of_mem _ hx)
theorem nib.head {h : UInt8} {p : Bs} (hn : nib (h :: p)) : h.toNat < 16 := hn h (List.mem_cons_self ..)
theorem nib.drop {p : Bs} (hn : nib p) (n : Nat) : nib (p.drop n) := fun x hx => hn x (List.mem_of_mem_drop hx)
theorem nib.take {p : Bs} (hn : nib p) (n : Nat) : nib (p.take n) := fun x hx => hn x (List.mem_of_mem_take hx)
theorem halves_inj : ∀ {s t : Bs}, halves s = halves t → s = t
  | [], [], _ => rfl
  | [], b :: t, h => by cases h
  | a :: s, [], h => by cases h
  | a :: s, b :: t, h => by
    rw [halves, halves] at h
    injection h with h1 h2
    injection h2 with h2 h3
    have e1 := congrArg UInt8.toNat h1
    have e2 := congrArg UInt8.toNat h2
    have ha := a.toNat_lt
    have hb := b.toNat_lt
    rw [u8_of (by omega), u8_of (by omega)] at e1 e2
    rw [halves_inj h3, UInt8.toNat_inj.1 (show a.toNat = b.toNat by omega)]
theorem halves_get : ∀ (s : Bs) (i : Nat) (b : UInt8), s[i]? = some b → (halves s)[2 * i]? = some (UInt8.ofNat (b.toNat / 16)) ∧ (halves s)[2 * i + 1]? = some (UInt8.ofNat (b.toNat % 16))
  | a :: s, 0, b, h => by
    obtain rfl : a = b := by simpa using h
    exact ⟨rfl, rfl⟩
  | a :: s, i + 1, b, h => by
    have := halves_get s i b (by simpa using h)
    rw [show 2 * (i + 1) = 2 * i + 1 + 1 by omega]
    exact this
  | [], i, b, h => by simp at h
/-- Two half bytes each. -/
def pairs : Bs → Bs
  | a :: b :: t => UInt8.ofNat (a.toNat * 16 + b.toNat) :: pairs t
  | _ => []
theorem pairs_length : ∀ p : Bs, (pairs p).length = p.length / 2
  | [] => rfl
  | [_] => by simp [pairs]
  | a :: b :: t => by rw [pairs, List.length_cons, pairs_length t, List.length_cons, List.length_cons]; omega
theorem pairs_get : ∀ (p : Bs) (k : Nat) (a b : UInt8), p[2 * k]? = some a → p[2 * k + 1]? = some b → (pairs p)[k]? = some (UInt8.ofNat (a.toNat * 16 + b.toNat))
  | [], k, a, b, h, _ => by simp at h
  | [x], k, a, b, h, h2 => by simp at h2
  | x :: y :: t, 0, a, b, h, h2 => by
    obtain rfl : x = a := by simpa using h
    obtain rfl : y = b := by simpa using h2
    rfl
  | x :: y :: t, k + 1, a, b, h, h2 => by
    rw [show 2 * (k + 1) = 2 * k + 1 + 1 by omega] at h h2
    exact pairs_get t k a b (by simpa using h) (by simpa using h2)
theorem halves_pairs : ∀ (p : Bs), nib p → p.length % 2 = 0 → halves (pairs p) = p
  | [], _, _ => rfl
  | [_], _, h => by simp at h
  | a :: b :: t, hn, h => by
    have ha := hn.head
    have hb := hn.tail.head
    rw [pairs, halves, halves_pairs t hn.tail.tail (by simp only [List.length_cons] at h; omega)]
    have e : (UInt8.ofNat (a.toNat * 16 + b.toNat)).toNat = a.toNat * 16 + b.toNat := u8_of (by omega)
    rw [e, show (a.toNat * 16 + b.toNat) / 16 = a.toNat by omega, show (a.toNat * 16 + b.toNat) % 16 = b.toNat by omega, UInt8.ofNat_toNat, UInt8.ofNat_toNat]
def markN (leaf : Bool) (odd : Nat) : Nat := (if leaf then 2 else 0) + odd
/-- A path's form. -/
def form (leaf : Bool) (p : Bs) : Bs := match p.length % 2 with
  | 0 => UInt8.ofNat (markN leaf 0 * 16) :: pairs p
  | _ => match p with
    | [] => []
    | h :: t => UInt8.ofNat (markN leaf 1 * 16 + h.toNat) :: pairs t
theorem form_even {leaf : Bool} {p : Bs} (h : p.length % 2 = 0) : form leaf p = UInt8.ofNat (markN leaf 0 * 16) :: pairs p := by
  unfold form
  simp only [h]
theorem form_odd {leaf : Bool} {x : UInt8} {t : Bs} (h : t.length % 2 = 0) : form leaf (x :: t) = UInt8.ofNat (markN leaf 1 * 16 + x.toNat) :: pairs t := by
  have : (x :: t).length % 2 = 1 := by rw [List.length_cons]; omega
  unfold form
  simp only [this]
theorem form_length (leaf : Bool) (p : Bs) : (form leaf p).length = p.length / 2 + 1 := by
  rcases Nat.mod_two_eq_zero_or_one p.length with h | h
  · rw [form_even h, List.length_cons, pairs_length]
  · cases p with
    | nil => cases h
    | cons x t =>
      rw [List.length_cons] at h
      rw [form_odd (by omega), List.length_cons, pairs_length, List.length_cons]
      omega
/-- The half bytes of a form. -/
theorem halves_form (leaf : Bool) (p : Bs) (hn : nib p) : halves (form leaf p) = UInt8.ofNat (markN leaf (p.length % 2)) :: (if p.length % 2 = 0 then 0 :: p else p) := by
  have hm : markN leaf 1 ≤ 3 := by unfold markN; split <;> omega
  have hm0 : markN leaf 0 ≤ 2 := by unfold markN; split <;> omega
  rcases Nat.mod_two_eq_zero_or_one p.length with h | h
  · rw [form_even h, halves, halves_pairs p hn h, h, if_pos rfl]
    have e : (UInt8.ofNat (markN leaf 0 * 16)).toNat = markN leaf 0 * 16 := u8_of (by omega)
    rw [e, show markN leaf 0 * 16 / 16 = markN leaf 0 by omega, show markN leaf 0 * 16 % 16 = 0 by omega]
    rfl
  · cases p with
    | nil => cases h
    | cons x t =>
      have ht : t.length % 2 = 0 := by rw [List.length_cons] at h; omega
      have hx := hn.head
      rw [form_odd ht, halves, halves_pairs t hn.tail ht, h, if_neg (by decide)]
      have e : (UInt8.ofNat (markN leaf 1 * 16 + x.toNat)).toNat = markN leaf 1 * 16 + x.toNat := u8_of (by omega)
      rw [e, show (markN leaf 1 * 16 + x.toNat) / 16 = markN leaf 1 by omega, show (markN leaf 1 * 16 + x.toNat) % 16 = x.toNat by omega, UInt8.ofNat_toNat]
/-- How much two paths have alike. -/
def common : Bs → Bs → Nat
  | a :: s, b :: t => if a = b then common s t + 1 else 0
  | _, _ => 0
theorem common_le : ∀ s t : Bs, common s t ≤ s.length ∧ common s t ≤ t.length
  | [], t => by simp [common]
  | a :: s, [] => by simp [common]
  | a :: s, b :: t => by
    rw [common]
    have := common_le s t
    split <;> simp <;> omega
theorem common_get : ∀ (s t : Bs) (i : Nat), i < common s t → s[i]? = t[i]?
  | [], t, i, h => by simp [common] at h
  | a :: s, [], i, h => by simp [common] at h
  | a :: s, b :: t, i, h => by
    rw [common] at h
    split at h
    · rename_i e
      subst e
      cases i with
      | zero => rfl
      | succ i => simpa using common_get s t i (by omega)
    · omega
theorem common_stop : ∀ (s t : Bs), common s t < s.length → common s t < t.length → s[common s t]? ≠ t[common s t]?
  | [], t, h, _ => by simp at h
  | a :: s, [], _, h => by simp at h
  | a :: s, b :: t, h1, h2 => by
    rw [common] at *
    split at h1
    · rename_i e
      rw [if_pos e] at h2 ⊢
      simp only [List.length_cons] at h1 h2
      simpa using common_stop s t (by omega) (by omega)
    · rename_i e
      rw [if_neg e]
      simpa using e
theorem common_take : ∀ (s t : Bs), s.take (common s t) = t.take (common s t)
  | [], t => by simp [common]
  | a :: s, [] => by simp [common]
  | a :: s, b :: t => by
    rw [common]
    split
    · rename_i e
      rw [List.take_succ_cons, List.take_succ_cons, e, common_take s t]
    · rfl
theorem common_drop : ∀ (s t : Bs), common (s.drop (common s t)) (t.drop (common s t)) = 0
  | [], t => by simp [common]
  | a :: s, [] => by simp [common]
  | a :: s, b :: t => by
    by_cases e : a = b
    · rw [show common (a :: s) (b :: t) = common s t + 1 by rw [common, if_pos e]]
      exact common_drop s t
    · rw [show common (a :: s) (b :: t) = 0 by rw [common, if_neg e]]
      rw [List.drop_zero, List.drop_zero, common, if_neg e]
end Go.Proofs.YtijidnhaijdfaaaGreatDoor
