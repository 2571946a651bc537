/-
  Tries by definition: nodes, their items and bytes, what a path finds, which nodes lie on its way. Conditions: none.
-/
import Derived.Test.YtijidnhaijdfaaaGreatDoorPR3
import Derived.Test.YtijidnhaijdfaaaGreatDoorPR5
import Derived.Test.YtijidnhaijdfaaaGreatDoorPR8
namespace Go.Proofs.YtijidnhaijdfaaaGreatDoor
set_option linter.unusedVariables false

theorem foldl_push_size (l : List Int) : ∀ acc : ByteArray, (l.foldl (fun r n => r.push (UInt8.ofNat n.toNat)) acc).size = acc.size + l.length := by
  induction l with
  | nil => intro acc; rfl
  | cons x l ih =>
    intro acc
    rw [List.foldl_cons, ih, List.length_cons]
    have e : ∀ b, (acc.push b).size = acc.size + 1 := fun b => Array.size_push ..
    rw [e]
    omega
/-- A digest. -/
def dg (s : Bs) : Bs := (digS (bsS s)).data.toList
theorem strF_size (f : Nat → Nat) : (strF f).size = 32 := by
  unfold strF
  rw [foldl_push_size]
  simp [strL]
theorem digS_size (s : ByteArray) : (digS s).size = 32 := by
  unfold digS
  exact strF_size _
theorem list_size (s : ByteArray) : s.data.toList.length = s.size := Array.length_toList
theorem dg_length (s : Bs) : (dg s).length = 32 := (list_size (digS (bsS s))).trans (digS_size _)
theorem bsS_list2 (s : ByteArray) : bsS s.data.toList = s := rfl
theorem bsS_dg (s : Bs) : bsS (dg s) = digS (bsS s) := bsS_list2 _

mutual
/-- A node: a leaf, what several paths have alike, or a branch. -/
inductive Nd where
  | leaf (p v : Bs)
  | ext (p : Bs) (c : Nd)
  | branch (l : Cs)
inductive Cs where
  | nil
  | cons (h : UInt8) (c : Nd) (l : Cs)
end
/-- How an item is referred to. -/
def refI (x : It) : It := if (enc x).length < 32 then x else .text (dg (enc x))
mutual
def item : Nd → It
  | .leaf p v => .list [.text (form true p), .text v]
  | .ext p c => .list [.text (form false p), refI (item c)]
  | .branch l => .list ((List.range 17).map (slot l))
def slot : Cs → Nat → It
  | .nil, _ => .text []
  | .cons h c l, i => if i = h.toNat then refI (item c) else slot l i
end
def isB : Nd → Prop
  | .branch _ => True
  | _ => False
mutual
/-- A node whose paths have n half bytes. -/
def ok : Nat → Nd → Prop
  | n, .leaf p v => p.length = n ∧ nib p ∧ v ≠ [] ∧ v.length ≤ 1000
  | n, .ext p c => p ≠ [] ∧ nib p ∧ p.length ≤ n ∧ isB c ∧ ok (n - p.length) c
  | n, .branch l => 0 < n ∧ oks (n - 1) l
def oks : Nat → Cs → Prop
  | _, .nil => True
  | n, .cons h c l => h.toNat < 16 ∧ ok n c ∧ oks n l
end
def Cs.get : Cs → UInt8 → Option Nd
  | .nil, _ => none
  | .cons h c l, x => if h = x then some c else l.get x
mutual
/-- What a path finds. -/
def res : Nd → Bs → Bs
  | .leaf p v, k => if p = k then v else []
  | .ext p c, k => if p.isPrefixOf k then res c (k.drop p.length) else []
  | .branch l, k => match k with
    | [] => []
    | h :: t => resC l h t
def resC : Cs → UInt8 → Bs → Bs
  | .nil, _, _ => []
  | .cons h c l, x, t => if h = x then res c t else resC l x t
end
def nodeB (first : Bool) (x : It) : List Bs := if first || decide (32 ≤ (enc x).length) then [enc x] else []
mutual
/-- The nodes on a path's way. -/
def prf : Bool → Nd → Bs → List Bs
  | f, .leaf p v, k => nodeB f (item (.leaf p v))
  | f, .ext p c, k => nodeB f (item (.ext p c)) ++ if p.isPrefixOf k then prf false c (k.drop p.length) else []
  | f, .branch l, k => nodeB f (item (.branch l)) ++ match k with
    | [] => []
    | h :: t => prfC l h t
def prfC : Cs → UInt8 → Bs → List Bs
  | .nil, _, _ => []
  | .cons h c l, x, t => if h = x then prf false c t else prfC l x t
end
theorem resC_get : ∀ (l : Cs) (x : UInt8) (t : Bs), resC l x t = match l.get x with | some c => res c t | none => []
  | .nil, x, t => by rw [resC, Cs.get]
  | .cons h c l, x, t => by
    rw [resC, Cs.get]
    split
    · rfl
    · exact resC_get l x t
theorem prfC_get : ∀ (l : Cs) (x : UInt8) (t : Bs), prfC l x t = match l.get x with | some c => prf false c t | none => []
  | .nil, x, t => by rw [prfC, Cs.get]
  | .cons h c l, x, t => by
    rw [prfC, Cs.get]
    split
    · rfl
    · exact prfC_get l x t
theorem slot_get : ∀ (l : Cs) (x : UInt8), slot l x.toNat = match l.get x with | some c => refI (item c) | none => .text []
  | .nil, x => by rw [slot, Cs.get]
  | .cons h c l, x => by
    rw [slot, Cs.get]
    by_cases e : h = x
    · subst e
      rw [if_pos rfl, if_pos rfl]
    · rw [if_neg e, if_neg (fun e2 => e (UInt8.toNat_inj.1 e2.symm))]
      exact slot_get l x
theorem oks_get : ∀ {n : Nat} {l : Cs} {x : UInt8} {c : Nd}, oks n l → l.get x = some c → x.toNat < 16 ∧ ok n c
  | n, .nil, x, c, h, hg => by rw [Cs.get] at hg; cases hg
  | n, .cons h c' l, x, c, ho, hg => by
    rw [oks] at ho
    rw [Cs.get] at hg
    split at hg
    · rename_i e
      subst e
      injection hg with hg
      subst hg
      exact ⟨ho.1, ho.2.1⟩
    · exact oks_get ho.2.2 hg
theorem slot_cases {n : Nat} : ∀ {l : Cs} (i : Nat), oks n l → slot l i = .text [] ∨ ∃ c, ok n c ∧ slot l i = refI (item c)
  | .nil, i, _ => .inl (by rw [slot])
  | .cons h c l, i, ho => by
    rw [oks] at ho
    rw [slot]
    split
    · exact .inr ⟨c, ho.2.1, rfl⟩
    · exact slot_cases i ho.2.2
theorem slot16 {n : Nat} : ∀ {l : Cs}, oks n l → slot l 16 = .text []
  | .nil, _ => by rw [slot]
  | .cons h c l, ho => by
    rw [oks] at ho
    rw [slot, if_neg (by omega)]
    exact slot16 ho.2.2

theorem framed_le (f : Nat) (s : Bs) : (framed f s).length ≤ s.length + 9 := by
  unfold framed
  have := num_len s.length
  split <;> simp <;> omega
theorem text_le (s : Bs) : (enc (.text s)).length ≤ s.length + 9 := by
  match s with
  | [] => exact framed_le 128 []
  | [b] =>
    show (if b < 128 then [b] else framed 128 [b]).length ≤ _
    split
    · simp
    · exact framed_le 128 [b]
  | a :: b :: t => exact framed_le 128 (a :: b :: t)
theorem list_le (l : List It) : (enc (.list l)).length ≤ (encs l).length + 9 := framed_le 192 _
theorem list_lt (l : List It) : (encs l).length < (enc (.list l)).length := by
  show _ < (framed 192 (encs l)).length
  unfold framed
  split <;> simp <;> omega
theorem refI_le (x : It) : (enc (refI x)).length ≤ 41 := by
  unfold refI
  split
  · omega
  · have := text_le (dg (enc x))
    rw [dg_length] at this
    exact this
theorem encs_le {m : Nat} : ∀ {l : List It}, (∀ x ∈ l, (enc x).length ≤ m) → (encs l).length ≤ m * l.length
  | [], _ => by simp [encs]
  | x :: l, h => by
    have h1 := h x (List.mem_cons_self ..)
    have h2 := encs_le (l := l) (fun y hy => h y (List.mem_cons_of_mem _ hy))
    rw [encs, List.length_append, List.length_cons, Nat.mul_succ]
    omega
theorem encs_ge : ∀ {l : List It} {x : It}, x ∈ l → l.length + (enc x).length ≤ (encs l).length + 1
  | y :: l, x, h => by
    have hp := enc_pos y
    rw [encs, List.length_append, List.length_cons]
    rcases List.mem_cons.1 h with rfl | h
    · have : ∀ l : List It, l.length ≤ (encs l).length := fun l => by
        induction l with
        | nil => simp
        | cons z l ih =>
          have := enc_pos z
          rw [encs, List.length_append, List.length_cons]
          omega
      have := this l
      omega
    · have := encs_ge h
      omega
theorem item_le {n : Nat} {nd : Nd} (hn : n ≤ 128) (h : ok n nd) : (enc (item nd)).length ≤ 1200 := by
  cases nd with
  | leaf p v =>
    rw [ok] at h
    have h1 := text_le (form true p)
    have h2 := text_le v
    have h3 := list_le [.text (form true p), .text v]
    rw [form_length] at h1
    simp only [encs, List.length_append, List.length_nil] at h3
    rw [item]
    omega
  | ext p c =>
    rw [ok] at h
    have h1 := text_le (form false p)
    have h2 := refI_le (item c)
    have h3 := list_le [.text (form false p), refI (item c)]
    rw [form_length] at h1
    simp only [encs, List.length_append, List.length_nil] at h3
    rw [item]
    omega
  | branch l =>
    rw [ok] at h
    have h3 := list_le ((List.range 17).map (slot l))
    have := encs_le (m := 41) (l := (List.range 17).map (slot l)) (fun x hx => by
      obtain ⟨i, _, rfl⟩ := List.mem_map.1 hx
      rcases slot_cases i h.2 with e | ⟨c, _, e⟩
      · rw [e]
        have := text_le []
        simp at this
        omega
      · rw [e]
        exact refI_le _)
    rw [List.length_map, List.length_range] at this
    rw [item]
    omega
theorem branch_ge (l : Cs) : 18 ≤ (enc (item (.branch l))).length := by
  rw [item]
  have h := list_lt ((List.range 17).map (slot l))
  have h2 := encs_ge (l := (List.range 17).map (slot l)) (x := slot l 0) (List.mem_map.2 ⟨0, by simp, rfl⟩)
  have := enc_pos (slot l 0)
  simp only [List.length_map, List.length_range] at h2
  omega
theorem refI_ge (x : It) (h : 18 ≤ (enc x).length) : 18 ≤ (enc (refI x)).length := by
  unfold refI
  split
  · exact h
  · have h1 := shape (.text (dg (enc x)))
    have hl := dg_length (enc x)
    generalize dg (enc x) = d at *
    generalize enc (.text d) = s at *
    cases h1 with
    | byte b h => simp at hl
    | short => simp only [pay, List.length_cons]; omega
    | long => simp only [pay, List.length_cons, List.length_append]; omega
theorem ext_ge {n : Nat} {p : Bs} {c : Nd} (h : ok n (.ext p c)) : 18 ≤ (enc (item (.ext p c))).length := by
  rw [ok] at h
  cases c with
  | branch l =>
    have h1 := refI_ge _ (branch_ge l)
    have h2 := list_lt [.text (form false p), refI (item (.branch l))]
    simp only [encs, List.length_append, List.length_nil] at h2
    rw [item]
    omega
  | leaf p v => exact h.2.2.2.1.elim
  | ext p v => exact h.2.2.2.1.elim
theorem deps_le {m : Nat} : ∀ {l : List It}, (∀ x ∈ l, dep x ≤ m) → deps l ≤ m
  | [], _ => by simp [deps]
  | x :: l, h => by
    have h1 := h x (List.mem_cons_self ..)
    have h2 := deps_le (l := l) (fun y hy => h y (List.mem_cons_of_mem _ hy))
    rw [deps]
    omega
theorem dep_refI {x : It} {m : Nat} (h : (enc x).length < 32 → dep x ≤ m) : dep (refI x) ≤ m := by
  unfold refI
  split
  · rename_i h1
    exact h h1
  · rw [dep]
    omega
theorem dep_leaf (p v : Bs) : dep (item (.leaf p v)) = 1 := by
  rw [item]
  simp [dep, deps]
theorem dep_branch {n : Nat} {l : Cs} (h : ok n (.branch l)) (hs : (enc (item (.branch l))).length < 32) : dep (item (.branch l)) ≤ 2 := by
  have h0 := h
  rw [ok] at h
  rw [item] at hs ⊢
  rw [dep]
  have := deps_le (m := 1) (l := (List.range 17).map (slot l)) (fun x hx => by
    have hge := encs_ge hx
    have hlt := list_lt ((List.range 17).map (slot l))
    rw [List.length_map, List.length_range] at hge
    obtain ⟨i, _, rfl⟩ := List.mem_map.1 hx
    rcases slot_cases i h.2 with e | ⟨c, hc, e⟩
    · rw [e, dep]
      omega
    · rw [e] at hge ⊢
      cases c with
      | leaf p v => exact dep_refI fun _ => by rw [dep_leaf]; omega
      | ext p c => have := refI_ge _ (ext_ge hc); omega
      | branch l => have := refI_ge _ (branch_ge l); omega)
  omega
theorem dep_ext {n : Nat} {p : Bs} {c : Nd} (h : ok n (.ext p c)) : dep (item (.ext p c)) ≤ 3 := by
  rw [ok] at h
  cases c with
  | branch l =>
    rw [item, dep]
    have := dep_refI (x := item (.branch l)) (m := 2) (dep_branch h.2.2.2.2)
    simp only [deps, dep]
    omega
  | leaf p v => exact h.2.2.2.1.elim
  | ext p v => exact h.2.2.2.1.elim
theorem dep_item {n : Nat} {nd : Nd} (h : ok n nd) : dep (item nd) ≤ 4 := by
  cases nd with
  | leaf p v => rw [dep_leaf]; omega
  | ext p c => have := dep_ext h; omega
  | branch l =>
    rw [ok] at h
    rw [item, dep]
    have := deps_le (m := 3) (l := (List.range 17).map (slot l)) (fun x hx => by
      obtain ⟨i, _, rfl⟩ := List.mem_map.1 hx
      rcases slot_cases i h.2 with e | ⟨c, hc, e⟩
      · rw [e, dep]
        omega
      · rw [e]
        refine dep_refI fun hs => ?_
        cases c with
        | leaf p v => rw [dep_leaf]; omega
        | ext p c => exact dep_ext hc
        | branch l => have := dep_branch hc hs; omega)
    omega
end Go.Proofs.YtijidnhaijdfaaaGreatDoor
