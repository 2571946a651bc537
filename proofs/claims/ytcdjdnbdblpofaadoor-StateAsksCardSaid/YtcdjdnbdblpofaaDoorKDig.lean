/-
  What a digest is: plain facts; the string of 32 bytes. Conditions: none.
-/
import Derived.Test.YtcdjdnbdblpofaaDoorKSpec
import Derived.Test.YtcdjdnbdblpofaaDoorKBuf
import Derived.Laws.BytesString
namespace Go.Proofs.YtcdjdnbdblpofaaDoor
open Go.RowKit
set_option linter.unusedSimpArgs false
set_option linter.unusedVariables false

/-- A text with a byte 1 behind it and bytes 0 behind that; the last byte's highest bit turned over. -/
def padA (s : ByteArray) (j : Nat) : Nat := if j < s.size then byteAt s j else if j = s.size then 1 else 0
def padN (s : ByteArray) : Nat := s.size / 136 + 1
def padF (s : ByteArray) (j : Nat) : Nat := if j = 136 * padN s - 1 then padA s (136 * padN s - 1) ^^^ 128 else padA s j
theorem padA_lt (s : ByteArray) (j : Nat) : padA s j < 256 := by
  unfold padA
  split
  · exact byteAt_lt s j
  · split <;> decide
theorem padF_lt (s : ByteArray) (j : Nat) : padF s j < 256 := by
  unfold padF
  split
  · exact Nat.xor_lt_two_pow (n := 8) (padA_lt _ _) (by decide)
  · exact padA_lt s j
theorem padA_str (s : ByteArray) : ∀ j, j < s.size → byteAt s j = padA s j := fun j hj => by unfold padA; rw [if_pos hj]
theorem padA_one (s : ByteArray) (j : Nat) (h : j < s.size + 1) : (if j = s.size then 1 else byteAt s j) = padA s j := by
  unfold padA
  by_cases e : j = s.size
  · rw [if_pos e, if_neg (by omega), if_pos e]
  · rw [if_neg e, if_pos (by omega)]
theorem padA_more (s : ByteArray) {n : Nat} (hn : s.size < n) (j : Nat) : (if j = n then 0 else padA s j) = padA s j := by
  by_cases e : j = n
  · subst e
    rw [if_pos rfl]
    unfold padA
    rw [if_neg (by omega), if_neg (by omega)]
  · rw [if_neg e]

/-- The state behind q blocks. -/
def stF (s : ByteArray) : Nat → (Nat → Nat)
  | 0 => fun _ => 0
  | q + 1 => rnds (takeB (stF s q) (fun i => padF s (136 * q + i)) 136) 24
theorem st_zero (s : ByteArray) : stF s 0 = fun _ => 0 := rfl
theorem st_succ (s : ByteArray) (q : Nat) : stF s (q + 1) = rnds (takeB (stF s q) (fun i => padF s (136 * q + i)) 136) 24 := rfl
theorem st_lt (s : ByteArray) : ∀ q, LL (stF s q)
  | 0 => fun _ => M64_pos
  | q + 1 => rnds_lt (takeB_lt (st_lt s q) (fun i => padF_lt s _) 136) 24

/-- Byte k of a state. -/
def outF (f : Nat → Nat) (k : Nat) : Nat := f (k / 8) / 2 ^ (8 * (k % 8)) % 256
theorem outF_lt (f : Nat → Nat) (k : Nat) : outF f k < 256 := Nat.mod_lt _ (by decide)

/-- The bytes told so far. -/
def outN (f : Nat → Nat) (n : Nat) : Nat → Nat := fun k => if k < n then outF f k else 0
theorem outN_zero (f : Nat → Nat) (k : Nat) : 0 = outN f 0 k := by unfold outN; rw [if_neg (by omega)]
theorem outN_all (f : Nat → Nat) (k : Nat) (h : k < 32) : outN f 32 k = outF f k := by unfold outN; rw [if_pos h]
theorem outN_succ (f : Nat → Nat) (n k : Nat) : (if k = n then outF f n else outN f n k) = outN f (n + 1) k := by
  unfold outN
  by_cases h : k = n
  · subst h
    rw [if_pos rfl, if_pos (by omega)]
  · rw [if_neg h]
    by_cases h2 : k < n
    · rw [if_pos h2, if_pos (by omega)]
    · rw [if_neg h2, if_neg (by omega)]

/-- 32 bytes as a string. -/
def strL (f : Nat → Nat) : List Int := (List.range 32).map fun k => ((f k : Nat) : Int)
def strF (f : Nat → Nat) : ByteArray := (strL f).foldl (fun r n => r.push (UInt8.ofNat n.toNat)) ByteArray.empty

theorem string_of {W : World} {k cap : Nat} {f : Nat → Nat} (hc : ∀ j, j < 32 → W.cell? ⟨k, j, none⟩ = some (.int .u8 (f j : Nat))) : (convert 110 9 (.slice (some ⟨k, 0, none⟩) 32 cap)).run Tryd.prog W = .ok (.string (strF f)) W := by
  rw [run_convert_bytes_string W 110 9 5 _ _ _ Tryd.underlying110 Tryd.underlying5 Tryd.underlying9]
  refine run_bytesToString W _ 32 cap (strL f) ?_
  have hadd : ∀ q j : Nat, (⟨q, 0, none⟩ : Addr).add j = ⟨q, j, none⟩ := fun q j => by unfold Addr.add; split <;> simp_all
  have hl : ((strL f).map (Value.int .u8)).length = 32 := by simp [strL]
  have := run_loadCells_list (P := Tryd.prog) W ⟨k, 0, none⟩ ((strL f).map (Value.int .u8)) (fun j v hv => by
    have hj : j < 32 := by
      have := (List.getElem?_eq_some_iff.1 hv).1
      omega
    have h3 : ((strL f).map (Value.int .u8))[j]? = some (.int .u8 (f j : Nat)) := by simp [strL, hj]
    rw [h3] at hv
    injection hv with hv
    subst hv
    rw [hadd]
    exact hc j hj)
  rw [hl] at this
  exact this

/-- A text's digest. -/
def digS (s : ByteArray) : ByteArray := strF (outF (stF s (padN s)))

theorem byte_bits {a k : Nat} : ((a : Nat) : Int) / 2 ^ (8 * (k % 8)) % 256 = ((a / 2 ^ (8 * (k % 8)) % 256 : Nat) : Int) := by
  rw [Int.natCast_emod, Int.natCast_ediv, Int.natCast_pow]
  rfl

/-- One byte taken in, as the code computes it. -/
theorem take_bits {x b i : Nat} (hx : x < M64) (hb : b < 256) : bits .xor .u64 ((x : Nat) : Int) (IntKind.u64.wrap ((b : Nat) * 2 ^ (8 * (i % 8)))) = ((x ^^^ b * 2 ^ (8 * (i % 8)) : Nat) : Int) := by
  have h := byte_lane (k := i) hb
  have e : ((b : Int) * 2 ^ (8 * (i % 8))) = ((b * 2 ^ (8 * (i % 8)) : Nat) : Int) := by push_cast; rfl
  rw [e, u64_wrapN, Nat.mod_eq_of_lt h, u64_xorN hx h]
theorem u8_xor128 {x : Nat} (h : x < 256) : bits .xor .u8 ((x : Nat) : Int) 128 = ((x ^^^ 128 : Nat) : Int) := u8_xor_nat x 128 h (by decide)
end Go.Proofs.YtcdjdnbdblpofaaDoor
