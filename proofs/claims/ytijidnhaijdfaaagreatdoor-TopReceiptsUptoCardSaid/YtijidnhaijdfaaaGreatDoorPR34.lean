/-
  Accounts in a trie: the pairs of TopAccounts. Conditions: texts that are not too long.
-/
import Derived.Test.YtijidnhaijdfaaaGreatDoorPR32
import Derived.Test.YtijidnhaijdfaaaGreatDoorPR33
namespace Go.Proofs.YtijidnhaijdfaaaGreatDoor
open Go.RowKit
attribute [local go_sem] leftBy leaves Oper.semAt_some
set_option linter.unusedSimpArgs false
set_option linter.unusedVariables false

theorem infoPr : (Tryz.prog.info? 36).map (fun i => (i.zero, i.size, i.bytes)) = some (some (.agg #[.string ⟨#[]⟩, .string ⟨#[]⟩]), 2, 32) := by kernel_rfl
/-- An account stands in seven cells. -/
def acR (W : World) (bl o : Nat) (x : Ac) : Prop := W.cell? ⟨bl, o, none⟩ = some (.int .u64 (x.n : Nat)) ∧ W.cell? ⟨bl, o + 1, none⟩ = some (.int .u64 (lb x.b 0 : Nat)) ∧ W.cell? ⟨bl, o + 2, none⟩ = some (.int .u64 (lb x.b 1 : Nat)) ∧ W.cell? ⟨bl, o + 3, none⟩ = some (.int .u64 (lb x.b 2 : Nat)) ∧ W.cell? ⟨bl, o + 4, none⟩ = some (.int .u64 (lb x.b 3 : Nat)) ∧ W.cell? ⟨bl, o + 5, none⟩ = some (.string (bsS x.r)) ∧ W.cell? ⟨bl, o + 6, none⟩ = some (.string (bsS x.c))
theorem acR.to {W W' : World} {bl o : Nat} {x : Ac} (h : acR W bl o x) (e : W'.heap[bl]? = W.heap[bl]?) : acR W' bl o x := by
  have hc : ∀ k v, W.cell? ⟨bl, k, none⟩ = some v → W'.cell? ⟨bl, k, none⟩ = some v := fun k v hk => (World.cell?_of_block (a := ⟨bl, k, none⟩) e).trans hk
  obtain ⟨h0, h1, h2, h3, h4, h5, h6⟩ := h
  exact ⟨hc _ _ h0, hc _ _ h1, hc _ _ h2, hc _ _ h3, hc _ _ h4, hc _ _ h5, hc _ _ h6⟩
/-- A slice of accounts. -/
def acL (W : World) (v : Value) (A : List Ac) : Prop := ∃ (a : Option Addr) (c : Nat), v = .slice a A.length c ∧ ∀ (i : Nat) (x : Ac), A[i]? = some x → ∃ bl o, a = some ⟨bl, o, none⟩ ∧ acR W bl (o + i * 7) x
/-- The pairs of accounts and addresses. -/
def prs (Z : List (Ac × Bs)) : List Lf := Z.map fun p => (dg p.2, enc p.1.item)
theorem enc_ne (x : It) : enc x ≠ [] := fun e => by
  have h1 := enc_pos x
  rw [e] at h1
  simp at h1
theorem prs_ok {Z : List (Ac × Bs)} (h : ∀ p ∈ Z, p.1.right) : ∀ x ∈ prs Z, x.1.length = 32 ∧ x.2 ≠ [] ∧ x.2.length ≤ 1000 := by
  intro x hx
  unfold prs at hx
  rw [List.mem_map] at hx
  obtain ⟨p, hp, hpx⟩ := hx
  have h1 := dg_length p.2
  have h2 := enc_ne p.1.item
  have h3 := p.1.enc_le (h p hp)
  generalize dg p.2 = d at *
  generalize enc p.1.item = e at *
  subst hpx
  exact ⟨h1, h2, h3⟩
theorem lfC_snoc2 (L : List Lf) (d e : Bs) : lfC (L ++ [(d, e)]) = lfC L ++ [.string (bsS d), .string (bsS e)] := lfC_snoc L (d, e)
theorem prs_snoc (Z : List (Ac × Bs)) (x : Ac) (s : Bs) : prs (Z ++ [(x, s)]) = prs Z ++ [(dg s, enc x.item)] := by
  unfold prs
  rw [List.map_append, List.map_cons, List.map_nil]
theorem acR.lt {W : World} {bl o : Nat} {x : Ac} (h : acR W bl o x) : bl < W.heap.size := lt_of_cell h.1
theorem lvF_own2 {e : TypeId} {F : Nat → Prop} {W : World} {B : Nat} {v : Value} {L : List Lf} (h : W.ownsRow B e 2 v L.length (lfC L)) (hF : ∀ g, v.ownBlock = some g → F g) : lvF F W v L := by
  obtain ⟨a, c, hv, h1, h2⟩ := row_form h
  refine ⟨a, c, hv, ⟨h1, h2⟩, fun i u hu => ?_⟩
  rcases h.2 with ⟨hn, h0⟩ | ⟨g, cap, cur, hg, h3, h4, h5⟩
  · have : L = [] := List.eq_nil_of_length_eq_zero h0
    subst this
    cases hu
  · have hc := h.cells (g := g) (by rw [hg]; rfl)
    simp only [addr_add] at hc
    obtain ⟨e0, e1⟩ := lfC_get hu
    rw [hv] at hg
    simp only [Value.slice.injEq] at hg
    refine ⟨g, 0, ⟨hg.1, hF g (by rw [hv, hg.1]; rfl)⟩, hc _ _ e0, ?_⟩
    have := hc _ _ e1
    rwa [← Nat.add_assoc] at this
/-- The code behind a first part. -/
def sqC : Code → Code
  | .seq _ b => b
  | c => c
end Go.Proofs.YtijidnhaijdfaaaGreatDoor
