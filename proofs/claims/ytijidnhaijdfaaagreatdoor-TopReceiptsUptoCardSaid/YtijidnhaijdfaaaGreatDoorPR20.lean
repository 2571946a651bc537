/-
  Texts of one proof, one behind the other. Conditions: each text's own line says them.
-/
import Derived.Test.YtijidnhaijdfaaaGreatDoorPR17
import Derived.Test.YtijidnhaijdfaaaGreatDoorPR19

/- A trie's nodes in the memory; leaves whose paths are cut: behind. Conditions: none. -/
namespace Go.Proofs.YtijidnhaijdfaaaGreatDoor
open Go.RowKit
attribute [local go_sem] leftBy leaves
set_option linter.unusedSimpArgs false
set_option linter.unusedVariables false

/-- The value v is a slice of the cells xs, in a block of F. -/
def rowF (F : Nat → Prop) (W : World) (v : Value) (xs : List Value) : Prop := ∃ (a : Option Addr) (c : Nat), v = .slice a xs.length c ∧ (xs.length ≤ c ∧ c ≤ maxLen) ∧ ∀ (i : Nat) (u : Value), xs[i]? = some u → ∃ bl o, (a = some ⟨bl, o, none⟩ ∧ F bl) ∧ W.cell? ⟨bl, o + i, none⟩ = some u
theorem rowF.to {F F' : Nat → Prop} {W W' : World} {v : Value} {xs : List Value} (hF : ∀ k, F k → cellsAt W k → F' k ∧ W'.heap[k]? = W.heap[k]?) (h : rowF F W v xs) : rowF F' W' v xs := by
  obtain ⟨a, c, hv, hc, hx⟩ := h
  refine ⟨a, c, hv, hc, fun i u hu => ?_⟩
  obtain ⟨bl, o, ⟨ha, hf⟩, hcell⟩ := hx i u hu
  obtain ⟨hf', e⟩ := hF bl hf (cells_of hcell)
  exact ⟨bl, o, ⟨ha, hf'⟩, cell_same hcell e⟩
theorem rowF_own {F : Nat → Prop} {W : World} {B : Nat} {e : TypeId} {v : Value} {xs : List Value} (h : W.ownsRow B e 1 v xs.length xs) (hF : ∀ g, v.ownBlock = some g → F g) : rowF F W v xs := by
  obtain ⟨a, c, hv, h1, h2⟩ := row_form h
  refine ⟨a, c, hv, ⟨h1, h2⟩, fun i u hu => ?_⟩
  rcases h.2 with ⟨hn, h0⟩ | ⟨g, cap, cur, hg, h3, h4, h5⟩
  · have : xs = [] := List.eq_nil_of_length_eq_zero h0
    subst this
    cases hu
  · have hc := h.cells (g := g) (by rw [hg]; rfl) i u hu
    rw [addr_add] at hc
    rw [hv] at hg
    simp only [Value.slice.injEq] at hg
    exact ⟨g, 0, ⟨hg.1, hF g (by rw [hv, hg.1]; rfl)⟩, hc⟩
def leads : Nd → List Bs
  | .leaf _ _ => []
  | .ext p _ => [p]
  | .branch l => l.heads.map fun h => [h]
/-- The node x stands at the pointer v: its item, its bytes, its leads in le, the nodes that it refers to in ne. -/
def nodeF (F : Nat → Prop) (W : World) (x : It) (ls : List Bs) (v ne : Value) : Prop := ∃ (k : Nat) (b t s le : Value), (v = .pointer (some ⟨k, 0, none⟩) ∧ F k) ∧ W.heap[k]? = some (.cells #[b, t, s, .string (bsS (enc x)), le, ne] 110 (0, 0)) ∧ itF F W x (.agg #[b, t, s]) ∧ rowF F W le (ls.map fun p => .string (bsS p))
theorem nodeF.to {F F' : Nat → Prop} {W W' : World} {x : It} {ls : List Bs} {v ne : Value} (hF : ∀ k, F k → cellsAt W k → F' k ∧ W'.heap[k]? = W.heap[k]?) (h : nodeF F W x ls v ne) : nodeF F' W' x ls v ne := by
  obtain ⟨k, b, t, s, le, ⟨hv, hk⟩, hh, hx, hl⟩ := h
  obtain ⟨hk', e⟩ := hF k hk ⟨_, _, _, hh⟩
  exact ⟨k, b, t, s, le, ⟨hv, hk'⟩, e.trans hh, hx.to hF, hl.to hF⟩
mutual
def ndF (F : Nat → Prop) (W : World) : Nd → Value → Prop
  | .leaf p v, x => ∃ ne, nodeF F W (item (.leaf p v)) [] x ne ∧ rowF F W ne []
  | .ext p c, x => ∃ ne y, nodeF F W (item (.ext p c)) [p] x ne ∧ rowF F W ne [y] ∧ ndF F W c y
  | .branch l, x => ∃ ne ys, nodeF F W (item (.branch l)) (l.heads.map fun h => [h]) x ne ∧ rowF F W ne ys ∧ csF F W l ys
def csF (F : Nat → Prop) (W : World) : Cs → List Value → Prop
  | .nil, ys => ys = []
  | .cons _ c l, ys => ∃ y r, ys = y :: r ∧ ndF F W c y ∧ csF F W l r
end
mutual
theorem ndF.to {F F' : Nat → Prop} {W W' : World} (hF : ∀ k, F k → cellsAt W k → F' k ∧ W'.heap[k]? = W.heap[k]?) : ∀ {nd : Nd} {v : Value}, ndF F W nd v → ndF F' W' nd v
  | .leaf p v, x, h => by
    rw [ndF] at h ⊢
    obtain ⟨ne, h1, h2⟩ := h
    exact ⟨ne, h1.to hF, h2.to hF⟩
  | .ext p c, x, h => by
    rw [ndF] at h ⊢
    obtain ⟨ne, y, h1, h2, h3⟩ := h
    exact ⟨ne, y, h1.to hF, h2.to hF, ndF.to hF h3⟩
  | .branch l, x, h => by
    rw [ndF] at h ⊢
    obtain ⟨ne, ys, h1, h2, h3⟩ := h
    exact ⟨ne, ys, h1.to hF, h2.to hF, csF.to hF h3⟩
theorem csF.to {F F' : Nat → Prop} {W W' : World} (hF : ∀ k, F k → cellsAt W k → F' k ∧ W'.heap[k]? = W.heap[k]?) : ∀ {l : Cs} {ys : List Value}, csF F W l ys → csF F' W' l ys
  | .nil, ys, h => by
    rw [csF] at h ⊢
    exact h
  | .cons _ c l, ys, h => by
    rw [csF] at h ⊢
    obtain ⟨y, r, e, h1, h2⟩ := h
    exact ⟨y, r, e, ndF.to hF h1, csF.to hF h2⟩
end
theorem csF.length {F : Nat → Prop} {W : World} : ∀ {l : Cs} {ys : List Value}, csF F W l ys → ys.length = l.heads.length
  | .nil, ys, h => by
    rw [csF] at h
    rw [h, Cs.heads]
    rfl
  | .cons _ c l, ys, h => by
    rw [csF] at h
    obtain ⟨y, r, e, h1, h2⟩ := h
    rw [e, Cs.heads, List.length_cons, List.length_cons, csF.length h2]
/-- Its form. -/
theorem ndF.node {F : Nat → Prop} {W : World} {nd : Nd} {v : Value} (h : ndF F W nd v) : ∃ ne, nodeF F W (item nd) (leads nd) v ne := by
  cases nd with
  | leaf p w =>
    rw [ndF] at h
    obtain ⟨ne, h1, _⟩ := h
    exact ⟨ne, h1⟩
  | ext p c =>
    rw [ndF] at h
    obtain ⟨ne, y, h1, _⟩ := h
    exact ⟨ne, h1⟩
  | branch l =>
    rw [ndF] at h
    obtain ⟨ne, ys, h1, _⟩ := h
    exact ⟨ne, h1⟩
theorem nodeF.cells {F : Nat → Prop} {W : World} {x : It} {ls : List Bs} {v ne : Value} (h : nodeF F W x ls v ne) : ∃ (k : Nat) (p : Option Addr) (c : Nat) (le : Value), (v = .pointer (some ⟨k, 0, none⟩) ∧ F k) ∧ cellsAt W k ∧
    (W.cell? ⟨k, 0, none⟩ = some (.bool (isL x)) ∧ W.cell? ⟨k, 1, none⟩ = some (.string (bsS (txt x))) ∧ W.cell? ⟨k, 2, none⟩ = some (.slice p (subs x).length c) ∧ W.cell? ⟨k, 3, none⟩ = some (.string (bsS (enc x))) ∧ W.cell? ⟨k, 4, none⟩ = some le ∧ W.cell? ⟨k, 5, none⟩ = some ne) ∧
    itF F W x (.agg #[.bool (isL x), .string (bsS (txt x)), .slice p (subs x).length c]) ∧ rowF F W le (ls.map fun p => .string (bsS p)) := by
  obtain ⟨k, b, t, s, le, hv, hh, hx, hl⟩ := h
  obtain ⟨p, c, hf, _⟩ := hx.form
  simp only [Value.agg.injEq] at hf
  have e := congrArg Array.toList hf
  simp only [List.cons.injEq, and_true] at e
  obtain ⟨rfl, rfl, rfl⟩ := e
  refine ⟨k, p, c, le, hv, ⟨_, _, _, hh⟩, ⟨?_, ?_, ?_, ?_, ?_, ?_⟩, hx, hl⟩ <;> rw [Lib.cell_of_heap hh] <;> rfl

/-- The cells of leaves. -/
def lfC (L : List Lf) : List Value := L.flatMap encL
theorem lfC_length (L : List Lf) : (lfC L).length = L.length * 2 := by
  induction L with
  | nil => rfl
  | cons x L ih =>
    show (encL x ++ lfC L).length = _
    rw [List.length_append, ih, List.length_cons]
    show 2 + _ = _
    omega
theorem lfC_snoc (L : List Lf) (x : Lf) : lfC (L ++ [x]) = lfC L ++ [.string (bsS x.1), .string (bsS x.2)] := by
  simp [lfC, encL]
theorem lfC_get {L : List Lf} {i : Nat} {x : Lf} (h : L[i]? = some x) : (lfC L)[i * 2]? = some (.string (bsS x.1)) ∧ (lfC L)[i * 2 + 1]? = some (.string (bsS x.2)) := by
  induction L generalizing i with
  | nil => cases h
  | cons y L ih =>
    cases i with
    | zero =>
      obtain rfl : y = x := by simpa using h
      exact ⟨rfl, rfl⟩
    | succ i =>
      have := ih (i := i) (by simpa using h)
      have e : ∀ j, (lfC (y :: L))[(i + 1) * 2 + j]? = (lfC L)[i * 2 + j]? := fun j => by
        show (encL y ++ lfC L)[(i + 1) * 2 + j]? = _
        rw [show (i + 1) * 2 + j = (encL y).length + (i * 2 + j) by show _ = 2 + _; omega, List.getElem?_append_right (by omega), Nat.add_sub_cancel_left]
      exact ⟨(e 0).trans this.1, (e 1).trans this.2⟩
/-- v is a slice of leaves, in a block of F. -/
def lvF (F : Nat → Prop) (W : World) (v : Value) (L : List Lf) : Prop := ∃ (a : Option Addr) (c : Nat), v = .slice a L.length c ∧ (L.length ≤ c ∧ c ≤ maxLen) ∧ ∀ (i : Nat) (x : Lf), L[i]? = some x → ∃ bl o, (a = some ⟨bl, o, none⟩ ∧ F bl) ∧ W.cell? ⟨bl, o + i * 2, none⟩ = some (.string (bsS x.1)) ∧ W.cell? ⟨bl, o + i * 2 + 1, none⟩ = some (.string (bsS x.2))
theorem lvF.to {F F' : Nat → Prop} {W W' : World} {v : Value} {L : List Lf} (hF : ∀ k, F k → cellsAt W k → F' k ∧ W'.heap[k]? = W.heap[k]?) (h : lvF F W v L) : lvF F' W' v L := by
  obtain ⟨a, c, hv, hc, hx⟩ := h
  refine ⟨a, c, hv, hc, fun i u hu => ?_⟩
  obtain ⟨bl, o, ⟨ha, hf⟩, c0, c1⟩ := hx i u hu
  obtain ⟨hf', e⟩ := hF bl hf (cells_of c0)
  exact ⟨bl, o, ⟨ha, hf'⟩, cell_same c0 e, cell_same c1 e⟩
theorem lvF.below {F : Nat → Prop} {W W' : World} {v : Value} {L : List Lf} (h : lvF F W v L) (hb : Below W.heap.size W W') : lvF F W' v L := h.to fun k hf hc => ⟨hf, hb.block k hc.lt⟩
theorem lvF_own {F : Nat → Prop} {W : World} {B : Nat} {v : Value} {L : List Lf} (h : W.ownsRow B 136 2 v L.length (lfC L)) (hF : ∀ g, v.ownBlock = some g → F g) : lvF F W v L := by
  obtain ⟨a, c, hv, h1, h2⟩ := row_form h
  refine ⟨a, c, hv, ⟨h1, h2⟩, fun i u hu => ?_⟩
  rcases h.2 with ⟨hn, h0⟩ | ⟨g, cap, cur, hg, h3, h4, h5⟩
  · have : L = [] := List.eq_nil_of_length_eq_zero h0
    subst this
    cases hu
  · have hc := h.cells (g := g) (by rw [hg]; rfl)
    simp only [addr_add] at hc
    obtain ⟨e0, e1⟩ := lfC_get hu
    rw [hv] at hg
    simp only [Value.slice.injEq] at hg
    refine ⟨g, 0, ⟨hg.1, hF g (by rw [hv, hg.1]; rfl)⟩, hc _ _ e0, ?_⟩
    have := hc _ _ e1
    rwa [← Nat.add_assoc] at this
end Go.Proofs.YtijidnhaijdfaaaGreatDoor

/- Leaves whose paths are cut: behind. Conditions: each path is as long as what is cut. -/
namespace Go.Proofs.YtijidnhaijdfaaaGreatDoor
open Go.RowKit
attribute [local go_sem] leftBy leaves
set_option linter.unusedSimpArgs false
set_option linter.unusedVariables false

theorem infoLf : (Tryz.prog.info? 136).map (fun i => (i.zero, i.size, i.bytes)) = some (some (.agg #[.string ⟨#[]⟩, .string ⟨#[]⟩]), 2, 32) := by kernel_rfl
theorem bs_drop (p : Bs) (n : Nat) (hn : n ≤ p.length) : (bsS p).extract n p.length = bsS (p.drop n) := by
  have := ext_rest (p.take n) (p.drop n)
  rw [List.take_append_drop, List.length_take, List.length_drop, Nat.min_eq_left hn, show n + (p.length - n) = p.length by omega] at this
  exact this
theorem bs_take (p : Bs) (n : Nat) (hn : n ≤ p.length) : (bsS p).extract 0 n = bsS (p.take n) := by
  have := ext_head (p.take n) (p.drop n)
  rw [List.take_append_drop, List.length_take, Nat.min_eq_left hn] at this
  exact this
/-- Where a region stands that puts something behind others: nothing but the row has turned. -/
structure apB (W1 : World) (B : Nat) (e : TypeId) (sz : Nat) (v : Value) (n : Nat) (xs vc : List Value) (s : ApS) (w' : World) : Prop where
  fr : Fr (fun k => v.ownBlock = some k) W1 w'
  row : s.ap = false → w'.ownsRow B e sz v n xs
  one : s.ap = false → ∀ g, s.z = some g → W1.heap.size ≤ g ∧ w'.heap[g]? = some (.cells vc.toArray e (0, 0))
  new : s.ap = true → w'.ownsRow B e sz (.slice (some ⟨s.g, 0, none⟩) (n + 1) s.cap) (n + 1) (xs ++ vc)


set_option maxRecDepth 100000 in
set_option maxHeartbeats 8000000 in
theorem behind_any (v : Value) (L : List Lf) (n : Nat) (W : World) (hv : lvF (fun _ => True) W v L) (hn : ∀ x ∈ L, n ≤ x.1.length) (hs : ∀ x ∈ L, x.1.length ≤ 100000) (hL : L.length ≤ 100000) :
    Calls Tryz.prog 84 #[v, .int .i64 (n : Nat)] W fun e w' => ∃ u, e = .returned u ∧ lvF (fun q => W.heap.size ≤ q) w' u (tails n L) ∧ Below W.heap.size W w' := by
  obtain ⟨i0, hi, hz0, hz1, hz2⟩ := info_parts infoLf
  have hvv := hv
  obtain ⟨a, c, rfl, hc, hx⟩ := hv
  clear hx
  go_enter Tryz.func84, Tryz.ntmps84
  go_wp2
  obtain ⟨Wo, hWo⟩ : ∃ X : World, X = W := ⟨_, rfl⟩
  go_loopw [5, 10] (fun o x wr => ∃ i : Nat, i ≤ L.length ∧ x = .int .i64 (i : Nat) ∧ wr.ownsRow W.heap.size 136 2 o i (lfC (tails n (L.take i))) ∧ Below W.heap.size W wr) (fun o x _ => L.length - (intOf x).toNat)
  case atStart => exact ⟨0, Nat.zero_le _, rfl, World.ownsRow_nil _ _ _ _, Below.refl _ _⟩
  case round =>
    obtain ⟨i, hil, rfl, hrow, hbel⟩ := hrel
    by_cases hlt : i < L.length
    · obtain ⟨x, hx⟩ : ∃ x, L[i]? = some x := ⟨_, List.getElem?_eq_getElem hlt⟩
      have hxm := List.mem_of_getElem? hx
      have hn1 := hn x hxm
      have hs1 := hs x hxm
      obtain ⟨bl, o, ⟨rfl, _⟩, c0, c1⟩ : ∃ bl o, (a = some ⟨bl, o, none⟩ ∧ True) ∧ wr.cell? ⟨bl, o + i * 2, none⟩ = some (.string (bsS x.1)) ∧ wr.cell? ⟨bl, o + i * 2 + 1, none⟩ = some (.string (bsS x.2)) := by
        obtain ⟨a', c', hv', _, hcell⟩ := hvv.below hbel
        obtain ⟨rfl, rfl⟩ : a = a' ∧ c = c' := by simpa using hv'
        exact hcell i x hx
      obtain ⟨va, vc, rfl, hvc1, hvc2⟩ := row_form hrow
      have hlti : (i : Int) < (L.length : Int) := by omega
      refine wp_hide fun QQ hQQ => ?_
      have hvh := Lib.hid hvv
      clear hvv hn hs
      go_wp2
      have hz := bsS_size x.1
      have hd := bs_drop x.1 n hn1
      have hni : (n : Int) ≤ (x.1.length : Int) := by omega
      have y0 : (wr.alloc (.cells #[.string (bsS x.1), .string (bsS x.2)] 136)).cell? ⟨wr.heap.size, 0, none⟩ = some (.string (bsS x.1)) := by rw [Lib.cell_of_heap (heap_new rfl)]; rfl
      have y1 : (wr.alloc (.cells #[.string (bsS x.1), .string (bsS x.2)] 136)).cell? ⟨wr.heap.size, 1, none⟩ = some (.string (bsS x.2)) := by rw [Lib.cell_of_heap (heap_new rfl)]; rfl
      have hrow5 := hrow.alloc (.cells #[.string (bsS x.1), .string (bsS x.2)] 136)
      have b5 : Below W.heap.size W (wr.alloc (.cells #[.string (bsS x.1), .string (bsS x.2)] 136)) := hbel.alloc hbel.size _
      have hTn : (Value.slice va i vc).ownBlock ≠ some wr.heap.size := fun h => by
        have := row_lt hrow _ h
        omega
      have hwB := hbel.size
      have z5 : wr.heap.size < (wr.alloc (.cells #[.string (bsS x.1), .string (bsS x.2)] 136)).heap.size := by simp
      generalize wr.alloc (.cells #[.string (bsS x.1), .string (bsS x.2)] 136) = W5 at *
      clear c0 c1 hrow
      refine wp_flowU (fun k => ([0, 1, 1, 1, 1, 1, 1, 1, 2, 2, 1] : List Nat).getD k 1) (apB W5 W.heap.size 136 2 (.slice va i vc) i (lfC (tails n (L.take i))) [.string (bsS (x.1.drop n)), .string (bsS x.2)]) (fun _ => True) (⟨none, false, false, false, 0, 0⟩) (⟨Fr.drew (Fr.refl _ _), fun _ => hrow5, fun _ g h => (by cases h), fun h => (by cases h)⟩) trivial (by kernel_rfl) (by kernel_rfl) ?_
      (refine flowU_lateE rfl rfl (fun K hK => ?_); apply Exists.intro; apply And.intro; (focus (intro s0 w' hC hR; have q0 := hR.fr.cell y0 hTn z5; have q1 := hR.fr.cell y1 hTn z5; clear hR; go_simp; (try go_bits); exact rfl)); go_simp; (try go_bits); refine hK _ ?_; clear hK K)
      iterate 7 ((refine flowU_readE rfl rfl (fun K hK => ?_); apply Exists.intro; apply And.intro; (focus (intro w' hR; have q0 := hR.fr.cell y0 hTn z5; have q1 := hR.fr.cell y1 hTn z5; clear hR; go_simp; (try go_bits); exact rfl)); go_simp; (try go_bits); refine hK _ ?_; clear hK K))
      refine flowU_step (fun v s => ∃ g, v = .slice (some ⟨g, 0, none⟩) 1 1 ∧ s = ⟨some g, false, false, false, 0, 0⟩) (by decide) rfl ⟨.slice (some ⟨0, 0, none⟩) 1 1, _, 0, rfl, rfl⟩ (fun w' hR => ?_) (fun _ _ _ _ _ => trivial) (fun K hK v s2 hs2 => ?_)
      focus
        have hfr := hR.fr
        have hro := hR.row rfl
        clear hR
        go_simp
        exact ⟨hfr.alloc _, fun _ => hro.alloc _, fun _ g hg => by
          obtain rfl : w'.heap.size = g := by simpa using hg
          exact ⟨hfr.size, heap_new rfl⟩, fun h => (by cases h)⟩
      obtain ⟨gz, rfl, rfl⟩ := hs2
      (go_simp; refine hK _ _ ?_; clear hK K)
      refine flowU_step (fun v s => ∃ g cap, v = .slice (some ⟨g, 0, none⟩) (i + 1) cap ∧ s = ⟨some gz, true, false, false, g, cap⟩) (by decide) rfl ⟨_, _, 0, 0, rfl, rfl⟩ (fun w' hR => ?_) (fun _ _ _ _ _ => trivial) (fun K hK v s2 hs2 => ?_)
      focus
        obtain ⟨hg1, hg2⟩ := hR.one rfl gz rfl
        have hro := hR.row rfl
        have hfr := hR.fr
        clear hR
        have hcl : ∀ j u, ([Value.string (bsS (x.1.drop n)), Value.string (bsS x.2)])[j]? = some u → w'.cell? ((⟨gz, 0, none⟩ : Addr).add j) = some u := fun j u hj => by
          have hg3 : w'.heap[gz]? = _ := hg2
          rw [addr_add, Lib.cell_of_heap hg3, Nat.zero_add]
          simpa using hj
        obtain ⟨v', w2, hrun, hown', hgrow, _, hloc⟩ := run_append_own_at (P := Tryz.prog) w' (W.heap.size) 134 134 136 i0 _ 2 32 Tryz.underlying134 hi hz0 hz1 hz2 rfl (by decide) _ _ _ hro ⟨gz, 0, none⟩ 1 1 ([Value.string (bsS (x.1.drop n)), Value.string (bsS x.2)]) rfl hcl (by simp [Value.oneCell']) (by unfold maxLen; omega) (by omega) (by have := hfr.size; omega)
        rw [append_exec (P := Tryz.prog) rfl rfl rfl hrun]
        obtain ⟨g', cap', rfl⟩ := ownsRow_succ hown'
        exact ⟨_, ⟨g', cap', rfl, rfl⟩, hfr.trans ⟨hgrow.os, hgrow.tape, hgrow.output, hgrow.size, fun k hk hT => hgrow.block k hk fun e => hT e.symm⟩, fun h => (by cases h), fun h => (by cases h), fun _ => hown'⟩
      obtain ⟨ga, capa, rfl, rfl⟩ := hs2
      (go_simp; refine hK _ _ ?_; clear hK K)
      (refine flowU_readE rfl rfl (fun K hK => ?_); apply Exists.intro; apply And.intro; (focus (intro w' hR; have q0 := hR.fr.cell y0 hTn z5; have q1 := hR.fr.cell y1 hTn z5; clear hR; go_simp; (try go_bits); exact rfl)); go_simp; (try go_bits); refine hK _ ?_; clear hK K)
      refine flowU_nil ?_
      intro W6 hR6
      have r6 := hR6.new rfl
      have f6 := hR6.fr
      clear hR6
      have e6 : lfC (tails n (L.take (i + 1))) = lfC (tails n (L.take i)) ++ [.string (bsS (x.1.drop n)), .string (bsS x.2)] := by
        rw [List.take_succ_eq_append_getElem hlt, (List.getElem?_eq_some_iff.1 hx).2]
        unfold tails
        rw [List.map_append]
        exact lfC_snoc _ _
      have b6 := b5.trans (f6.toBelow (n := W.heap.size) (by omega) fun q hq => (row_lt hrow5 q hq).1)
      go_wp2
      refine hQQ.out _ _ _ ?_
      simp only [Exit.then, Exit.inBlock]
      go_roundw
      case rel => exact ⟨i + 1, by omega, by go_num, by rw [e6]; exact r6, b6⟩
      case measure => simp [intOf]; omega
    · obtain rfl : i = L.length := by omega
      rw [List.take_length] at hrow
      have hl : (tails n L).length = L.length := by unfold tails; rw [List.length_map]
      rw [← hl] at hrow
      have hfin := lvF_own (F := fun q => W.heap.size ≤ q) hrow fun g hg => (row_lt hrow g hg).1
      go_wp2
      refine bodyPost_ret (by simp only [results, Tryz.results84]; go_simp; try rfl) rfl ⟨_, rfl, hfin, hbel⟩
end Go.Proofs.YtijidnhaijdfaaaGreatDoor
