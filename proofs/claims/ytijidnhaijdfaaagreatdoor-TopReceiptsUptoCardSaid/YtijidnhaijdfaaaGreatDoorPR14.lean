/-
  Things in the memory, with the blocks that they are made of; rows of things that grow. Conditions: none.
-/
import Derived.Test.YtijidnhaijdfaaaGreatDoorPR5
import Derived.Test.YtijidnhaijdfaaaGreatDoorSLoop
import Derived.Test.YtijidnhaijdfaaaGreatDoorRange
import Derived.Test.YtijidnhaijdfaaaGreatDoorPR6
namespace Go.Proofs.YtijidnhaijdfaaaGreatDoor
open Go.RowKit
set_option linter.unusedSimpArgs false
set_option linter.unusedVariables false

/-- Block k holds cells. -/
def cellsAt (W : World) (k : Nat) : Prop := ∃ c t f, W.heap[k]? = some (.cells c t f)
theorem cells_of {W : World} {p : Addr} {v : Value} (h : W.cell? p = some v) : cellsAt W p.block := by
  unfold World.cell? at h
  split at h
  · rename_i c t f e
    exact ⟨c, t, f, e⟩
  · cases h
theorem cellsAt.lt {W : World} {k : Nat} (h : cellsAt W k) : k < W.heap.size := let ⟨_, _, _, h⟩ := h; (Array.getElem?_eq_some_iff.1 h).1
theorem cell_same {W W' : World} {p : Addr} {v : Value} (h : W.cell? p = some v) (e : W'.heap[p.block]? = W.heap[p.block]?) : W'.cell? p = some v := (World.cell?_of_block (a := p) e).trans h
mutual
/-- The value v reads as the thing, out of blocks of F. -/
def itF (F : Nat → Prop) (W : World) : It → Value → Prop
  | .text s, v => v = .agg #[.bool false, .string (bsS s), .slice none 0 0]
  | .list l, v => ∃ (a : Option Addr) (c : Nat), v = .agg #[.bool true, .string ⟨#[]⟩, .slice a l.length c] ∧ (l.length ≤ c ∧ c ≤ maxLen) ∧ itsF F W a 0 l
def itsF (F : Nat → Prop) (W : World) (a : Option Addr) : Nat → List It → Prop
  | _, [] => True
  | i, x :: l => (∃ (bl o : Nat) (b t s : Value), (a = some ⟨bl, o, none⟩ ∧ F bl) ∧ (W.cell? ⟨bl, o + i * 3, none⟩ = some b ∧ W.cell? ⟨bl, o + i * 3 + 1, none⟩ = some t ∧ W.cell? ⟨bl, o + i * 3 + 2, none⟩ = some s) ∧ itF F W x (.agg #[b, t, s])) ∧ itsF F W a (i + 1) l
end
mutual
theorem itF.v {F : Nat → Prop} {W : World} : ∀ {x : It} {v : Value}, itF F W x v → itV W x v
  | .text s, v, h => h
  | .list l, v, h => by
    obtain ⟨a, c, hv, hc, hl⟩ := h
    exact ⟨a, c, hv, hc, itsF.v hl⟩
theorem itsF.v {F : Nat → Prop} {W : World} : ∀ {a : Option Addr} {i : Nat} {l : List It}, itsF F W a i l → itsV W a i l
  | a, i, [], h => trivial
  | a, i, x :: l, h => by
    obtain ⟨⟨bl, o, b, t, s, ⟨ha, _⟩, hc, hx⟩, hl⟩ := h
    exact ⟨⟨bl, o, b, t, s, ha, hc, itF.v hx⟩, itsF.v hl⟩
end
mutual
theorem itV.f {W : World} : ∀ {x : It} {v : Value}, itV W x v → itF (fun _ => True) W x v
  | .text s, v, h => h
  | .list l, v, h => by
    obtain ⟨a, c, hv, hc, hl⟩ := h
    exact ⟨a, c, hv, hc, itsV.f hl⟩
theorem itsV.f {W : World} : ∀ {a : Option Addr} {i : Nat} {l : List It}, itsV W a i l → itsF (fun _ => True) W a i l
  | a, i, [], h => trivial
  | a, i, x :: l, h => by
    obtain ⟨⟨bl, o, b, t, s, ha, hc, hx⟩, hl⟩ := h
    exact ⟨⟨bl, o, b, t, s, ⟨ha, trivial⟩, hc, itV.f hx⟩, itsV.f hl⟩
end
mutual
/-- What keeps its blocks keeps the thing. -/
theorem itF.to {F F' : Nat → Prop} {W W' : World} (hF : ∀ k, F k → cellsAt W k → F' k ∧ W'.heap[k]? = W.heap[k]?) : ∀ {x : It} {v : Value}, itF F W x v → itF F' W' x v
  | .text s, v, h => h
  | .list l, v, h => by
    obtain ⟨a, c, hv, hc, hl⟩ := h
    exact ⟨a, c, hv, hc, itsF.to hF hl⟩
theorem itsF.to {F F' : Nat → Prop} {W W' : World} (hF : ∀ k, F k → cellsAt W k → F' k ∧ W'.heap[k]? = W.heap[k]?) : ∀ {a : Option Addr} {i : Nat} {l : List It}, itsF F W a i l → itsF F' W' a i l
  | a, i, [], h => trivial
  | a, i, x :: l, h => by
    obtain ⟨⟨bl, o, b, t, s, ⟨ha, hf⟩, ⟨c0, c1, c2⟩, hx⟩, hl⟩ := h
    obtain ⟨hf', e⟩ := hF bl hf (cells_of c0)
    exact ⟨⟨bl, o, b, t, s, ⟨ha, hf'⟩, ⟨cell_same c0 e, cell_same c1 e, cell_same c2 e⟩, itF.to hF hx⟩, itsF.to hF hl⟩
end
theorem itF.below {F : Nat → Prop} {W W' : World} (hb : Below W.heap.size W W') {x : It} {v : Value} (h : itF F W x v) : itF F W' x v := h.to fun k hf hc => ⟨hf, hb.block k hc.lt⟩
theorem itsF.below {F : Nat → Prop} {W W' : World} (hb : Below W.heap.size W W') {a : Option Addr} {i : Nat} {l : List It} (h : itsF F W a i l) : itsF F W' a i l := h.to fun k hf hc => ⟨hf, hb.block k hc.lt⟩
/-- The cells xs read as the things, one behind the other. -/
def cellsF (F : Nat → Prop) (W : World) : List It → List Value → Prop
  | [], xs => xs = []
  | x :: l, xs => ∃ b t s r, xs = b :: t :: s :: r ∧ itF F W x (.agg #[b, t, s]) ∧ cellsF F W l r
theorem cellsF.length {F : Nat → Prop} {W : World} : ∀ {l : List It} {xs : List Value}, cellsF F W l xs → xs.length = l.length * 3
  | [], xs, h => by
    rw [cellsF] at h
    rw [h]
    rfl
  | x :: l, xs, h => by
    rw [cellsF] at h
    obtain ⟨b, t, s, r, rfl, _, h⟩ := h
    simp only [List.length_cons, h.length]
    omega
theorem cellsF.to {F F' : Nat → Prop} {W W' : World} (hF : ∀ k, F k → cellsAt W k → F' k ∧ W'.heap[k]? = W.heap[k]?) : ∀ {l : List It} {xs : List Value}, cellsF F W l xs → cellsF F' W' l xs
  | [], xs, h => h
  | x :: l, xs, h => by
    rw [cellsF] at h ⊢
    obtain ⟨b, t, s, r, e, hx, h⟩ := h
    exact ⟨b, t, s, r, e, hx.to hF, h.to hF⟩
theorem cellsF.snoc {F : Nat → Prop} {W : World} {y : It} {b t s : Value} (hy : itF F W y (.agg #[b, t, s])) : ∀ {l : List It} {xs : List Value}, cellsF F W l xs → cellsF F W (l ++ [y]) (xs ++ [b, t, s])
  | [], xs, h => by
    rw [cellsF] at h
    subst h
    exact ⟨b, t, s, [], rfl, hy, rfl⟩
  | x :: l, xs, h => by
    rw [cellsF] at h
    obtain ⟨b', t', s', r, rfl, hx, h⟩ := h
    exact ⟨b', t', s', _, rfl, hx, h.snoc hy⟩
theorem itF.form {F : Nat → Prop} {W : World} {x : It} {v : Value} (h : itF F W x v) : ∃ (a : Option Addr) (c : Nat), v = .agg #[.bool (isL x), .string (bsS (txt x)), .slice a (subs x).length c] ∧ ((subs x).length ≤ c ∧ c ≤ maxLen) ∧ itsF F W a 0 (subs x) := by
  cases x with
  | text s => exact ⟨none, 0, h, ⟨Nat.le_refl _, Nat.zero_le _⟩, trivial⟩
  | list l => exact h
theorem cellsF.one {F : Nat → Prop} {W : World} : ∀ {l : List It} {xs : List Value}, cellsF F W l xs → ∀ u ∈ xs, u.oneCell' = true
  | [], xs, h, u, hu => by
    rw [cellsF] at h
    subst h
    cases hu
  | x :: l, xs, h, u, hu => by
    rw [cellsF] at h
    obtain ⟨b, t, s, r, rfl, hx, h⟩ := h
    obtain ⟨a, c, hv, _⟩ := hx.form
    have e := congrArg Value.cells hv
    simp only [Value.agg.injEq] at hv
    have e := congrArg Array.toList hv
    simp only [List.cons.injEq, and_true] at e
    obtain ⟨rfl, rfl, rfl⟩ := e
    simp only [List.mem_cons] at hu
    rcases hu with rfl | rfl | rfl | hu
    · rfl
    · rfl
    · rfl
    · exact h.one u hu
/-- Cells in a row, as a list of things. -/
theorem itsF_of {F F' : Nat → Prop} {W : World} {bl o : Nat} (hF : ∀ k, F k → F' k) (hbl : F' bl) : ∀ {l : List It} {xs : List Value} (i : Nat), cellsF F W l xs → (∀ j u, xs[j]? = some u → W.cell? ⟨bl, o + i * 3 + j, none⟩ = some u) → itsF F' W (some ⟨bl, o, none⟩) i l
  | [], xs, i, _, _ => trivial
  | x :: l, xs, i, h, hc => by
    rw [cellsF] at h
    obtain ⟨b, t, s, r, rfl, hx, h⟩ := h
    refine ⟨⟨bl, o, b, t, s, ⟨rfl, hbl⟩, ⟨hc 0 b rfl, hc 1 t rfl, hc 2 s rfl⟩, hx.to fun k hk _ => ⟨hF k hk, rfl⟩⟩, itsF_of hF hbl (i + 1) h fun j u hj => ?_⟩
    have := hc (j + 3) u hj
    rw [show o + (i + 1) * 3 + j = o + i * 3 + (j + 3) by omega]
    exact this
theorem addr_add (q o j : Nat) : (⟨q, o, none⟩ : Addr).add j = ⟨q, o + j, none⟩ := by unfold Addr.add; split <;> simp_all
/-- A row of one's own that holds things is a list of things. -/
theorem row_items {F F' : Nat → Prop} {W : World} {B : Nat} {v : Value} {l : List It} {xs : List Value} (h : W.ownsRow B 51 3 v l.length xs) (hx : cellsF F W l xs) (hF : ∀ k, F k → F' k) (hB : ∀ k, B ≤ k → F' k) :
    ∃ a c, v = .slice a l.length c ∧ (l.length ≤ c ∧ c ≤ maxLen) ∧ itsF F' W a 0 l := by
  have hcell := fun g hg => h.cells (g := g) hg
  rcases h.2 with ⟨rfl, h0⟩ | ⟨g, cap, cur, rfl, h2, h3, h4, h5, h6, h7⟩
  · rw [h0]
    have : l = [] := List.eq_nil_of_length_eq_zero h0
    subst this
    exact ⟨none, 0, rfl, ⟨Nat.le_refl _, Nat.zero_le _⟩, trivial⟩
  · refine ⟨_, cap, rfl, ⟨h4, h5⟩, itsF_of hF (hB g h2) 0 hx fun j u hj => ?_⟩
    have := hcell g rfl j u hj
    rw [addr_add] at this
    rw [show 0 + 0 * 3 + j = 0 + j by omega]
    exact this
theorem row_same {W W' : World} {base : Nat} {e : TypeId} {size : Nat} {v : Value} {n : Nat} {xs : List Value} (h : W.ownsRow base e size v n xs) (hk : ∀ g, v.ownBlock = some g → cellsAt W g → W'.heap[g]? = W.heap[g]?) : W'.ownsRow base e size v n xs := by
  refine ⟨h.1, ?_⟩
  rcases h.2 with h | ⟨g, cap, cur, rfl, h2, h3, h4⟩
  · exact .inl h
  · exact .inr ⟨g, cap, cur, rfl, h2, (hk g rfl ⟨_, _, _, h3⟩).trans h3, h4⟩
theorem row_lt {W : World} {base : Nat} {e : TypeId} {size : Nat} {v : Value} {n : Nat} {xs : List Value} (h : W.ownsRow base e size v n xs) : ∀ g, v.ownBlock = some g → base ≤ g ∧ g < W.heap.size := by
  intro g hg
  rcases h.2 with ⟨rfl, _⟩ | ⟨g', cap, cur, rfl, h2, h3, h4⟩
  · cases hg
  · obtain rfl : g' = g := by simpa [Value.ownBlock] using hg
    exact ⟨h2, (Array.getElem?_eq_some_iff.1 h3).1⟩
theorem row_base {W : World} {base base' : Nat} {e : TypeId} {size : Nat} {v : Value} {n : Nat} {xs : List Value} (h : W.ownsRow base e size v n xs) (hb : ∀ g, v.ownBlock = some g → base' ≤ g) : W.ownsRow base' e size v n xs := by
  refine ⟨h.1, ?_⟩
  rcases h.2 with h | ⟨g, cap, cur, rfl, h2, h3, h4⟩
  · exact .inl h
  · exact .inr ⟨g, cap, cur, rfl, hb g rfl, h3, h4⟩
/-- The loop's own record has turned: cells stay. -/
theorem recTurned.cellsAt {l : Nat} {W W' : World} (h : recTurned l W W') {k : Nat} (hc : cellsAt W k) : W'.heap[k]? = W.heap[k]? := by
  obtain ⟨c, t, f, hk⟩ := hc
  rw [hk]
  exact h.cells hk rfl
theorem row_form {W : World} {B e sz n : Nat} {v : Value} {xs : List Value} (h : W.ownsRow B e sz v n xs) : ∃ a c, v = .slice a n c ∧ n ≤ c ∧ c ≤ maxLen := by
  rcases h.2 with ⟨rfl, rfl⟩ | ⟨g', cap', cur, hv, h2, h3, h4, h5, _⟩
  · exact ⟨none, 0, rfl, Nat.le_refl _, Nat.zero_le _⟩
  · exact ⟨_, _, hv, h4, h5⟩
theorem row_own {W : World} {B e sz n : Nat} {v : Value} {xs : List Value} (h : W.ownsRow B e sz v n xs) : ∀ g, v.ownBlock = some g → ∃ cs, W.heap[g]? = some (.cells cs e (0, 0)) := by
  intro g hg
  rcases h.2 with ⟨rfl, rfl⟩ | ⟨g', cap', cur, rfl, h2, h3, h4, h5, _⟩
  · cases hg
  · obtain rfl : g' = g := by simpa [Value.ownBlock] using hg
    exact ⟨_, h3⟩

theorem turned_below {l B : Nat} {W W' : World} (h : recTurned l W W') (hl : B ≤ l) : Below B W W' := by
  obtain ⟨o, o', h1, h2, rfl⟩ := h
  exact (below_putObj o' h1).mono hl
theorem append_exec {P : Program} {o : Oper} {a : Act} {w' w2 : World} {s x : Operand} {t : TypeId} (ho : o.op = .call { callee := .builtin .append, args := #[s, x], argTypes := #[t, t] }) {v u v' : Value} (hs : a.eval s = v) (hx : a.eval x = u)
    (hr : (Builtin.append_ #[t, t] o.type #[v, u]).run P w' = .ok v' w2) : (execOp a.eval o).run P w' = .ok (.value v') w2 := by
  unfold execOp
  simp only [ho, resolve, invoke, builtin, Sem.run_bind, Sem.run_pure, Result.andThen_ok, List.map_toArray, List.map_cons, List.map_nil, hs, hx, hr]
theorem keeps_set {B : Nat} {W X : World} (h : KeepsFrom B W X) {q : Nat} (hq : q < B) (j : Nat) (v : Value) : KeepsFrom B W (X.setCell ⟨q, j, none⟩ v) :=
  ⟨by rw [World.size_setCell]; exact h.size, fun k o hB hk ho => (heap_set_ne (by omega)).trans (h.same k o hB hk ho)⟩
theorem keeps_alloc (B : Nat) (W : World) (o : Obj) : KeepsFrom B W (W.alloc o) := ⟨by simp, fun k o' _ hk _ => (Below.heap_alloc W o k (Array.getElem?_eq_some_iff.1 hk).1).trans hk⟩
theorem keeps_grown {B : Nat} {W W' : World} {v : Value} {base e size n : Nat} {xs : List Value} (hg : W.grownBy W' v.ownBlock) (hr : W.ownsRow base e size v n xs) : KeepsFrom B W W' :=
  ⟨hg.size, fun k o _ hk ho => (hg.block k (Array.getElem?_eq_some_iff.1 hk).1 (fun e => by
    rcases hr.2 with ⟨rfl, _⟩ | ⟨g, cap, cur, rfl, _, h3, _⟩
    · cases e
    · obtain rfl : k = g := by simpa [Value.ownBlock] using e
      rw [hk] at h3
      obtain rfl := Option.some.inj h3
      cases ho)).trans hk⟩
theorem set_same {W : World} {q : Nat} {u v : Value} {t : TypeId} {f : Nat × Nat} (h : W.heap[q]? = some (.cells #[u] t f)) : (W.setCell ⟨q, 0, none⟩ v).heap[q]? = some (.cells #[v] t f) := by
  rw [setCell_at h 0]
  rfl
end Go.Proofs.YtijidnhaijdfaaaGreatDoor
