/-
  Things in the memory: how an item reads; Text and List. Conditions: none.
-/
import Derived.Test.YtijidnhaijdfaaaGreatDoorPR3
import Derived.Test.YtijidnhaijdfaaaGreatDoorPR4
import Derived.Test.YtijidnhaijdfaaaGreatDoorRange
import Derived.Lib.Hide
import Derived.Test.YtijidnhaijdfaaaGreatDoorProg
import Derived.WalkKit
namespace Go.Proofs.YtijidnhaijdfaaaGreatDoor
open Go.RowKit
attribute [local go_sem] leftBy leaves
set_option linter.unusedSimpArgs false
set_option linter.unusedVariables false

/-- A list of bytes as a text. -/
def bsS (s : Bs) : ByteArray := ⟨s.toArray⟩
theorem bsS_size (s : Bs) : (bsS s).size = s.length := by simp [bsS, ByteArray.size]
/-- A thing's own text. -/
def txt : It → Bs
  | .text s => s
  | .list _ => []
def subs : It → List It
  | .text _ => []
  | .list l => l
mutual
/-- The value v reads as the thing; behind a, from place i on, stand the things l. -/
def itV (W : World) : It → Value → Prop
  | .text s, v => v = .agg #[.bool false, .string (bsS s), .slice none 0 0]
  | .list l, v => ∃ (a : Option Addr) (c : Nat), v = .agg #[.bool true, .string ⟨#[]⟩, .slice a l.length c] ∧ (l.length ≤ c ∧ c ≤ maxLen) ∧ itsV W a 0 l
def itsV (W : World) (a : Option Addr) : Nat → List It → Prop
  | _, [] => True
  | i, x :: l => (∃ (bl o : Nat) (b t s : Value), a = some ⟨bl, o, none⟩ ∧ (W.cell? ⟨bl, o + i * 3, none⟩ = some b ∧ W.cell? ⟨bl, o + i * 3 + 1, none⟩ = some t ∧ W.cell? ⟨bl, o + i * 3 + 2, none⟩ = some s) ∧ itV W x (.agg #[b, t, s])) ∧ itsV W a (i + 1) l
end
theorem lt_of_cell {W : World} {p : Addr} {v : Value} (h : W.cell? p = some v) : p.block < W.heap.size := by
  rcases Nat.lt_or_ge p.block W.heap.size with h1 | h1
  · exact h1
  · have : W.heap[p.block]? = none := Array.getElem?_eq_none h1
    simp [World.cell?, this] at h
mutual
theorem itV.below {W W' : World} (hb : Below W.heap.size W W') : ∀ {x : It} {v : Value}, itV W x v → itV W' x v
  | .text s, v, h => h
  | .list l, v, h => by
    obtain ⟨a, c, hv, hc, hl⟩ := h
    exact ⟨a, c, hv, hc, itsV.below hb hl⟩
theorem itsV.below {W W' : World} (hb : Below W.heap.size W W') : ∀ {a : Option Addr} {i : Nat} {l : List It}, itsV W a i l → itsV W' a i l
  | a, i, [], h => trivial
  | a, i, x :: l, h => by
    obtain ⟨⟨bl, o, b, t, s, ha, ⟨c0, c1, c2⟩, hx⟩, hl⟩ := h
    have hlt := lt_of_cell c0
    exact ⟨⟨bl, o, b, t, s, ha, ⟨(hb.cell (p := ⟨bl, o + i * 3, none⟩) hlt).trans c0, (hb.cell (p := ⟨bl, o + i * 3 + 1, none⟩) hlt).trans c1, (hb.cell (p := ⟨bl, o + i * 3 + 2, none⟩) hlt).trans c2⟩, itV.below hb hx⟩, itsV.below hb hl⟩
end
/-- Its form. -/
theorem itV.form {W : World} {x : It} {v : Value} (h : itV W x v) : ∃ (a : Option Addr) (c : Nat), v = .agg #[.bool (isL x), .string (bsS (txt x)), .slice a (subs x).length c] ∧ ((subs x).length ≤ c ∧ c ≤ maxLen) ∧ itsV W a 0 (subs x) := by
  cases x with
  | text s => exact ⟨none, 0, h, ⟨Nat.le_refl _, Nat.zero_le _⟩, trivial⟩
  | list l => exact h
/-- The thing at a place. -/
theorem itsV.get {W : World} {a : Option Addr} : ∀ {l : List It} {i k : Nat} {x : It}, itsV W a i l → l[k]? = some x → ∃ (bl o : Nat) (p : Option Addr) (c : Nat), a = some ⟨bl, o, none⟩ ∧
    W.cell? ⟨bl, o + (i + k) * 3, none⟩ = some (.bool (isL x)) ∧ W.cell? ⟨bl, o + (i + k) * 3 + 1, none⟩ = some (.string (bsS (txt x))) ∧ W.cell? ⟨bl, o + (i + k) * 3 + 2, none⟩ = some (.slice p (subs x).length c) ∧ itV W x (.agg #[.bool (isL x), .string (bsS (txt x)), .slice p (subs x).length c])
  | y :: l, i, 0, x, h, hk => by
    obtain rfl : y = x := by simpa using hk
    obtain ⟨⟨bl, o, b, t, s, ha, ⟨c0, c1, c2⟩, hx⟩, _⟩ := h
    have hx' := hx
    obtain ⟨p, c, hv, _⟩ := hx'.form
    simp only [Value.agg.injEq] at hv
    have e := congrArg Array.toList hv
    simp only [List.cons.injEq, and_true] at e
    obtain ⟨rfl, rfl, rfl⟩ := e
    exact ⟨bl, o, p, c, ha, c0, c1, c2, hx⟩
  | y :: l, i, k + 1, x, h, hk => by
    have := itsV.get (i := i + 1) (k := k) h.2 (by simpa using hk)
    rw [show i + 1 + k = i + (k + 1) by omega] at this
    exact this
  | [], i, k, x, h, hk => by cases hk

set_option maxHeartbeats 4000000 in
theorem Text_any (s : ByteArray) (W : World) : Calls Tryz.prog 13 #[.string s] W fun e w' => e = .returned (.agg #[.bool false, .string s, .slice none 0 0]) ∧ Below W.heap.size W w' := by
  go_enter Tryz.func13, Tryz.ntmps13
  go_wp2
  refine bodyPost_ret (by simp only [results, Tryz.results13]; go_simp; try rfl) rfl ⟨rfl, ?_⟩
  exact (Below.refl _ W).alloc (Nat.le_refl _) _
set_option maxHeartbeats 4000000 in
theorem List_any (a : Option Addr) (n c : Nat) (W : World) : Calls Tryz.prog 18 #[.slice a n c] W fun e w' => e = .returned (.agg #[.bool true, .string ⟨#[]⟩, .slice a n c]) ∧ Below W.heap.size W w' := by
  go_enter Tryz.func18, Tryz.ntmps18
  go_wp2
  refine bodyPost_ret (by simp only [results, Tryz.results18]; go_simp; try rfl) rfl ⟨rfl, ?_⟩
  exact (Below.refl _ W).alloc (Nat.le_refl _) _
end Go.Proofs.YtijidnhaijdfaaaGreatDoor
