/-
  Long division bit by bit: plain facts. Conditions: none.
-/
import Derived.Test.YtmegpggpndjjcaaBits
import Derived.Test.YtmegpggpndjjcaaIter
namespace Go.Proofs.Ytmegpggpndjjcaa
open Go.RowKit

theorem Q256_two : Q256 = 2 * (M64 * M64 * M64 * 9223372036854775808) := by decide +kernel

/-- One round of the division: quotient and remainder. -/
def dstep (b : Nat) (s : Nat × Nat) (p : PB) : Nat × Nat :=
  if b ≤ 2 * s.2 + p.val.2 then ((if p.val.1 < 256 then s.1 ||| 2 ^ p.val.1 else s.1), 2 * s.2 + p.val.2 - b) else (s.1, 2 * s.2 + p.val.2)

theorem or_lt256 {q i : Nat} (hq : q < Q256) (hi : i < 256) : q ||| 2 ^ i < Q256 := by
  rw [Q256_pow] at *
  exact Nat.or_lt_two_pow hq (Nat.pow_lt_pow_right (by decide) hi)

theorem dstep_ok {b : Nat} {s : Nat × Nat} {p : PB} (hs : s.1 < Q256) (hr : s.2 < b) : (dstep b s p).1 < Q256 ∧ (dstep b s p).2 < b := by
  have hp := p.property.2
  unfold dstep
  split
  · refine ⟨?_, by simp only; omega⟩
    simp only
    split
    · exact or_lt256 hs (by assumption)
    · exact hs
  · exact ⟨hs, by simp only; omega⟩

theorem dfold_ok {b : Nat} : ∀ (l : List PB) (s : Nat × Nat), s.1 < Q256 → s.2 < b → (l.foldl (dstep b) s).1 < Q256 ∧ (l.foldl (dstep b) s).2 < b
  | [], _, h1, h2 => ⟨h1, h2⟩
  | p :: l, s, h1, h2 => by
    have h := dstep_ok (p := p) h1 h2
    exact dfold_ok l _ h.1 h.2

theorem join_mod {Q N : Nat} (hN : N < 256) : (Q * 2 ^ (N + 1)) % Q256 ||| 2 ^ N = (Q * 2 ^ (N + 1)) % Q256 + 2 ^ N ∧ (Q * 2 ^ (N + 1)) % Q256 + 2 ^ N < Q256 := by
  rw [Q256_pow]
  have e : (2 : Nat) ^ 256 = 2 ^ (N + 1) * 2 ^ (255 - N) := by rw [← Nat.pow_add]; congr 1; omega
  have h1 : (Q * 2 ^ (N + 1)) % 2 ^ 256 = 2 ^ (N + 1) * (Q % 2 ^ (255 - N)) := by rw [e, Nat.mul_comm Q, Nat.mul_mod_mul_left]
  have hm : (Q * 2 ^ (N + 1)) % 2 ^ 256 % 2 ^ (N + 1) = 0 := by rw [h1, Nat.mul_mod_right]
  have hlt : 2 ^ N < 2 ^ (N + 1) := Nat.pow_lt_pow_right (by decide) (by omega)
  refine ⟨nat_join (N + 1) _ _ hm hlt, ?_⟩
  have h2 : Q % 2 ^ (255 - N) + 1 ≤ 2 ^ (255 - N) := Nat.mod_lt _ (Nat.two_pow_pos _)
  have h3 : 2 ^ (N + 1) * (Q % 2 ^ (255 - N) + 1) ≤ 2 ^ 256 := by rw [e]; exact Nat.mul_le_mul_left _ h2
  rw [Nat.mul_add, Nat.mul_one, ← h1] at h3
  omega

theorem div_two (x N : Nat) : x / 2 ^ N = 2 * (x / 2 ^ (N + 1)) + bitOf x N := by
  have : x / 2 ^ (N + 1) = x / 2 ^ N / 2 := by rw [Nat.pow_succ, Nat.div_div_eq_div_mul]
  rw [this]
  unfold bitOf
  omega

theorem dstep_eq {b x N : Nat} (hb : 0 < b) (hN : N < 512) (p : PB) (hp : p.val = (N, bitOf x N)) :
    dstep b ((x / 2 ^ (N + 1) / b * 2 ^ (N + 1)) % Q256, x / 2 ^ (N + 1) % b) p = ((x / 2 ^ N / b * 2 ^ N) % Q256, x / 2 ^ N % b) := by
  have hd := div_two x N
  have hbit := bitOf_le x N
  generalize bitOf x N = t at *
  generalize x / 2 ^ N = y at *
  generalize x / 2 ^ (N + 1) = z at *
  have hz := Nat.div_add_mod z b
  have hzm := Nat.mod_lt z hb
  unfold dstep
  simp only [hp]
  generalize z % b = r at *
  generalize z / b = Q at *
  have ey : y = b * (2 * Q) + (2 * r + t) := by rw [hd, ← hz, Nat.mul_add, ← Nat.mul_assoc, Nat.mul_comm 2 b, Nat.mul_assoc, Nat.add_assoc]
  by_cases hc : b ≤ 2 * r + t
  · rw [if_pos hc]
    have ey2 : y = b * (2 * Q + 1) + (2 * r + t - b) := by rw [ey, Nat.mul_add b (2 * Q) 1]; omega
    have hlt : 2 * r + t - b < b := by omega
    have h1 : y / b = 2 * Q + 1 := by rw [ey2, Nat.mul_add_div hb, Nat.div_eq_of_lt hlt, Nat.add_zero]
    have h2 : y % b = 2 * r + t - b := by rw [ey2, Nat.mul_add_mod, Nat.mod_eq_of_lt hlt]
    rw [h1, h2]
    have e3 : (2 * Q + 1) * 2 ^ N = Q * 2 ^ (N + 1) + 2 ^ N := by rw [Nat.add_mul, Nat.pow_succ, Nat.one_mul, Nat.mul_comm 2 Q, Nat.mul_assoc, Nat.mul_comm 2 (2 ^ N)]
    rw [e3]
    by_cases h256 : N < 256
    · rw [if_pos h256]
      obtain ⟨j1, j2⟩ := join_mod (Q := Q) h256
      rw [j1, Nat.add_mod, Nat.mod_eq_of_lt (a := 2 ^ N) (by omega), Nat.mod_eq_of_lt j2]
    · rw [if_neg h256]
      have : (2 : Nat) ^ N = Q256 * 2 ^ (N - 256) := by rw [Q256_pow, ← Nat.pow_add, show 256 + (N - 256) = N by omega]
      have h4 : (Q * 2 ^ (N + 1) + 2 ^ N) % Q256 = Q * 2 ^ (N + 1) % Q256 := by rw [this, Nat.add_mul_mod_self_left]
      rw [h4]
  · rw [if_neg hc]
    have hlt : 2 * r + t < b := by omega
    have h1 : y / b = 2 * Q := by rw [ey, Nat.mul_add_div hb, Nat.div_eq_of_lt hlt, Nat.add_zero]
    have h2 : y % b = 2 * r + t := by rw [ey, Nat.mul_add_mod, Nat.mod_eq_of_lt hlt]
    rw [h1, h2]
    have e3 : 2 * Q * 2 ^ N = Q * 2 ^ (N + 1) := by rw [Nat.pow_succ, Nat.mul_comm 2 Q, Nat.mul_assoc, Nat.mul_comm 2 (2 ^ N)]
    rw [e3]

theorem dfold_down {b x : Nat} (hb : 0 < b) : ∀ N, N ≤ 512 → (down x N).foldl (dstep b) ((x / 2 ^ N / b * 2 ^ N) % Q256, x / 2 ^ N % b) = (x / b % Q256, x % b)
  | 0, _ => by simp [down]
  | N + 1, h => by
    rw [down, List.foldl_cons, dstep_eq hb (N := N) (by omega) _ (by simp only; rw [Nat.mod_eq_of_lt (by omega)])]
    exact dfold_down hb N (by omega)

theorem dfold_all {b x N : Nat} (hb : 0 < b) (hN : N ≤ 512) (hx : x < 2 ^ N) : (down x N).foldl (dstep b) (0, 0) = (x / b % Q256, x % b) := by
  have h := dfold_down (x := x) hb N hN
  rw [Nat.div_eq_of_lt hx, Nat.zero_div, Nat.zero_mul, Nat.zero_mod, Nat.zero_mod] at h
  exact h

/-- Of an even number, one more in its lowest part. -/
theorem lb_or_bit {E t : Nat} (hE : E < Q256) (h2 : E % 2 = 0) (ht : t ≤ 1) : (lb E 0 ||| t) = lb (E + t) 0 ∧ lb E 1 = lb (E + t) 1 ∧ lb E 2 = lb (E + t) 2 ∧ lb E 3 = lb (E + t) 3 ∧ E + t < Q256 := by
  have e := lb_eq hE
  have l0 := lb_lt E 0
  have l1 := lb_lt E 1
  have l2 := lb_lt E 2
  have l3 := lb_lt E 3
  have hev : lb E 0 % 2 = 0 := by
    generalize lb E 0 = x0 at *
    generalize lb E 1 = x1 at *
    generalize lb E 2 = x2 at *
    generalize lb E 3 = x3 at *
    unfold M64 at *
    omega
  have hor : (lb E 0 ||| t) = lb E 0 + t := nat_join 1 _ _ (by simpa using hev) (by omega)
  have hlt : lb E 0 + t < M64 := by unfold M64 at *; omega
  have hv := lb_val4 hlt l1 l2 l3
  have ev : val4 (lb E 0 + t) (lb E 1) (lb E 2) (lb E 3) = E + t := by
    unfold val4
    omega
  rw [ev] at hv
  refine ⟨hor.trans hv.1.symm, hv.2.1.symm, hv.2.2.1.symm, hv.2.2.2.symm, ?_⟩
  have := val4_lt hlt l1 l2 l3
  rwa [ev] at this

/-- One bit more in the part where it lies. -/
theorem lb_or_pow (q i j : Nat) : lb (q ||| 2 ^ i) j = if j = i / 64 then lb q j ||| 2 ^ (i % 64) else lb q j := by
  rw [lb_bits, lb_bits]
  apply Nat.eq_of_testBit_eq
  intro k
  have hk : ((q ||| 2 ^ i) / 2 ^ (64 * j) % 2 ^ 64).testBit k = (decide (k < 64) && (q.testBit (64 * j + k) || decide (i = 64 * j + k))) := by
    rw [Nat.testBit_mod_two_pow, Nat.testBit_div_two_pow, Nat.testBit_or, Nat.testBit_two_pow, Nat.add_comm k]
  rw [hk]
  split
  · rename_i h
    rw [Nat.testBit_or, Nat.testBit_mod_two_pow, Nat.testBit_div_two_pow, Nat.testBit_two_pow, Nat.add_comm k]
    by_cases h64 : k < 64
    · simp only [h64, decide_true, Bool.true_and]
      congr 1
      rw [decide_eq_decide]
      omega
    · simp only [h64, decide_false, Bool.false_and, Bool.false_or]
      rw [eq_comm, decide_eq_false_iff_not]
      omega
  · rename_i h
    rw [Nat.testBit_mod_two_pow, Nat.testBit_div_two_pow, Nat.add_comm k]
    by_cases h64 : k < 64
    · simp only [h64, decide_true, Bool.true_and]
      have : decide (i = 64 * j + k) = false := by rw [decide_eq_false_iff_not]; omega
      rw [this, Bool.or_false]
    · simp only [h64, decide_false, Bool.false_and]

end Go.Proofs.Ytmegpggpndjjcaa
