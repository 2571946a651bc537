/-
  Maps by their keys: what a block of the memory holds, as a function of an address, or of an address and a word. Conditions: none.
-/
import Derived.Test.YtcdjdnbdblpofaaDoorPL2
import Derived.Test.YtcdjdnbdblpofaaDoorSLoop
import Derived.Test.YtcdjdnbdblpofaaDoorBits
namespace Go.Proofs.YtcdjdnbdblpofaaDoor
open Go.RowKit Go.Maps
set_option linter.unusedSimpArgs false
set_option linter.unusedVariables false

/-- A spot's value. -/
def spV (a : ByteArray) (k : Nat) : Value := .agg #[.string a, .int .u64 (lb k 0 : Nat), .int .u64 (lb k 1 : Nat), .int .u64 (lb k 2 : Nat), .int .u64 (lb k 3 : Nat)]

theorem wf_lb (k i : Nat) : (Lit.int .u64 (lb k i : Nat)).wf = true := by
  have h := lb_lt k i
  unfold M64 at h
  have h1 : IntKind.u64.min = 0 := by decide
  have h2 : IntKind.u64.max = 18446744073709551615 := by decide +kernel
  simp [Lit.wf, h1, h2]
  omega
theorem keySpot_some (a : ByteArray) (ha : a.size ≤ maxLen) (k : Nat) : (keyOf Tryd.prog 83 (spV a k)).isSome = true := by
  have h0 : Tryd.prog.keyType 83 = true := by kernel_rfl
  have h1 : Tryd.prog.cellsOf 83 = 5 := by kernel_rfl
  have h3 : Tryd.prog.cellsOf 25 = 4 := by kernel_rfl
  have h4 : Tryd.prog.cellsOf 9 = 1 := by kernel_rfl
  have h5 : Tryd.prog.cellsOf 23 = 1 := by kernel_rfl
  obtain ⟨d, h2⟩ : ∃ d, Tryd.prog.types.size + 1 = d + 1 + 1 + 1 := ⟨Tryd.prog.types.size - 2, by kernel_rfl⟩
  unfold keyOf
  rw [h2]
  simp only [Tryd.underlying83, h0, spV, Value.formed, h1, Value.cells, Program.keyLits, Bool.true_and, List.size_toArray, List.length_cons, List.length_nil, beq_self_eq_true, if_true, Option.isSome_map]
  simp [Tryd.underlying25, Tryd.underlying9, Tryd.underlying23, h3, h4, h5, ha, wf_lb, List.range, List.range.loop]

theorem spV_inj {a b : ByteArray} {k l : Nat} (hk : k < Q256) (hl : l < Q256) (h : spV a k = spV b l) : a = b ∧ k = l := by
  unfold spV at h
  injection h with h
  have h := congrArg Array.toList h
  simp only [List.cons.injEq, Value.string.injEq, Value.int.injEq, Int.natCast_inj, true_and, and_true] at h
  exact ⟨h.1, lb_inj hk hl h.2.1 h.2.2.1 h.2.2.2.1 h.2.2.2.2⟩

/-- Block mb is a map of at most N entries; under key i it holds what f says. -/
def MV {ι : Type} (W : World) (kt : TypeId) (kv : ι → Value) (ok : ι → Prop) (mb N : Nat) (z : Value) (f : ι → Option Value) : Prop :=
  ∃ D : DataW Value, W.ownsMap Tryd.prog kt heldR mb N D ∧ ∀ i kl, ok i → keyOf Tryd.prog kt (kv i) = some kl → Maps.has D kl = (f i).isSome ∧ D.atKey kl (.held z) = .held ((f i).getD z)

/-- What is to be known of a kind of keys. -/
structure KeyOK {ι : Type} (kt : TypeId) (kv : ι → Value) (ok : ι → Prop) : Prop where
  keyed : Keyed Tryd.prog kt
  some : ∀ i, ok i → ∃ kl, keyOf Tryd.prog kt (kv i) = some kl
  inj : ∀ i j, ok i → ok j → kv i = kv j → i = j

section
variable {ι : Type} {W : World} {kt : TypeId} {kv : ι → Value} {ok : ι → Prop} {mb N : Nat} {z : Value} {f : ι → Option Value}

theorem MV.lt (h : MV W kt kv ok mb N z f) : mb < W.heap.size := let ⟨_, h, _⟩ := h; h.lt
theorem MV.isMap (h : MV W kt kv ok mb N z f) : ∃ es clock, W.heap[mb]? = some (.map es clock) := let ⟨_, ⟨es, clock, h, _⟩, _⟩ := h; ⟨es, clock, h⟩
theorem MV.at_block {W' : World} (h : MV W kt kv ok mb N z f) (e : W'.heap[mb]? = W.heap[mb]?) : MV W' kt kv ok mb N z f := let ⟨D, h1, h2⟩ := h; ⟨D, owns_of h1 e, h2⟩
theorem MV.mono (h : MV W kt kv ok mb N z f) {N' : Nat} (hN : N ≤ N') : MV W kt kv ok mb N' z f := let ⟨D, h1, h2⟩ := h; ⟨D, h1.mono hN, h2⟩
theorem MV.ext {g : ι → Option Value} (h : MV W kt kv ok mb N z f) (e : ∀ i, ok i → f i = g i) : MV W kt kv ok mb N z g :=
  let ⟨D, h1, h2⟩ := h
  ⟨D, h1, fun i kl hi hk => (by rw [← e i hi]; exact h2 i kl hi hk)⟩
theorem MV.made (w : World) : MV (w.alloc (.map #[] 0)) kt kv ok w.heap.size 0 z (fun _ => none) :=
  ⟨_, World.ownsMap_made w _ _ _, fun i kl hi hk => ⟨rfl, rfl⟩⟩

theorem MV.look2 {t e : TypeId} (h : MV W kt kv ok mb N z f) (K : KeyOK kt kv ok) (ht : Tryd.prog.underlying t = some (.map kt e)) (hz : ∀ w, (zeroValue e).run Tryd.prog w = .ok z w) (i : ι) (hi : ok i) :
    ∀ W' : World, W'.heap[mb]? = W.heap[mb]? → (Instr.lookup t (.map (some mb)) (kv i) true).run Tryd.prog W' = .ok (.tuple #[(f i).getD z, .bool (f i).isSome]) W' := by
  intro W' e
  obtain ⟨D, h1, h2⟩ := h
  obtain ⟨kl, hk⟩ := K.some i hi
  obtain ⟨h3, h4⟩ := h2 i kl hi hk
  rw [← h3]
  exact Go.Proofs.YtcdjdnbdblpofaaDoor.look2 K.keyed ht h1 hz hk h4 W' e
theorem MV.look1 {t e : TypeId} (h : MV W kt kv ok mb N z f) (K : KeyOK kt kv ok) (ht : Tryd.prog.underlying t = some (.map kt e)) (hz : ∀ w, (zeroValue e).run Tryd.prog w = .ok z w) (i : ι) (hi : ok i) :
    ∀ W' : World, W'.heap[mb]? = W.heap[mb]? → (Instr.lookup t (.map (some mb)) (kv i) false).run Tryd.prog W' = .ok ((f i).getD z) W' := by
  intro W' e
  obtain ⟨D, h1, h2⟩ := h
  obtain ⟨kl, hk⟩ := K.some i hi
  obtain ⟨h3, h4⟩ := h2 i kl hi hk
  exact Go.Proofs.YtcdjdnbdblpofaaDoor.look1 K.keyed ht h1 hz hk h4 W' e
theorem MV.put [DecidableEq ι] {t e : TypeId} (h : MV W kt kv ok mb N z f) (K : KeyOK kt kv ok) (ht : Tryd.prog.underlying t = some (.map kt e)) (hN : N < maxLen) (i : ι) (hi : ok i) (v : Value) :
    ∃ w', (Instr.mapUpdate t (.map (some mb)) (kv i) v).run Tryd.prog W = .ok () w' ∧ MV w' kt kv ok mb (N + 1) z (fun j => if j = i then some v else f j) ∧ W.grownBy w' (some mb) := by
  obtain ⟨D, h1, h2⟩ := h
  obtain ⟨kl, hk⟩ := K.some i hi
  obtain ⟨w', hr, ho, hg⟩ := h1.update K.keyed ht hN hk (val := v) (d := .held v) (ps := []) rfl
  refine ⟨w', hr, ⟨_, ho, fun j kj hj hkj => ?_⟩, hg⟩
  by_cases e : j = i
  · subst e
    obtain rfl := Option.some.inj (hk.symm.trans hkj)
    dsimp only
    rw [if_pos rfl]
    exact ⟨has_put_same h1.isMap (K.keyed.key hk) _, atKey_put_same h1.isMap (K.keyed.key hk) _ _⟩
  · have hne : kj ≠ kl := fun e' => e (K.inj _ _ hj hi (K.keyed.inj (e' ▸ hkj) hk))
    dsimp only
    rw [if_neg e, has_put_other hne, atKey_put_other hne]
    exact h2 j kj hj hkj
theorem MV.del [DecidableEq ι] {t e : TypeId} (h : MV W kt kv ok mb N z f) (K : KeyOK kt kv ok) (ht : Tryd.prog.underlying t = some (.map kt e)) (i : ι) (hi : ok i) (ty : TypeId) :
    ∃ w', (Builtin.delete_ #[t, kt] ty #[.map (some mb), kv i]).run Tryd.prog W = .ok (.tuple #[]) w' ∧ MV w' kt kv ok mb N z (fun j => if j = i then none else f j) ∧ W.grownBy w' (some mb) := by
  obtain ⟨D, h1, h2⟩ := h
  obtain ⟨kl, hk⟩ := K.some i hi
  obtain ⟨w', hr, ho, hg⟩ := h1.drop K.keyed ht hk ty
  refine ⟨w', hr, ⟨_, ho, fun j kj hj hkj => ?_⟩, ?_⟩
  · by_cases e : j = i
    · subst e
      obtain rfl := Option.some.inj (hk.symm.trans hkj)
      dsimp only
      rw [if_pos rfl]
      exact ⟨has_del_same, atKey_del_same _⟩
    · have hne : kj ≠ kl := fun e' => e (K.inj _ _ hj hi (K.keyed.inj (e' ▸ hkj) hk))
      dsimp only
      rw [if_neg e, has_del_other hne, atKey_del_other hne]
      exact h2 j kj hj hkj
  · exact hg.grown
end

/-- A text, an address and a word, as keys. -/
def okT (a : ByteArray) : Prop := a.size ≤ maxLen
def okP (p : ByteArray × Nat) : Prop := p.1.size ≤ maxLen ∧ p.2 < Q256
def spW (p : ByteArray × Nat) : Value := spV p.1 p.2
theorem keyT : KeyOK 9 Value.string okT := ⟨lawStr, fun a h => ⟨_, keyStr a h⟩, fun a b _ _ h => by injection h⟩
theorem keyP : KeyOK 83 spW okP := ⟨lawSpot, fun p h => Option.isSome_iff_exists.1 (keySpot_some p.1 h.1 p.2), fun p q hp hq h => by
  obtain ⟨h1, h2⟩ := spV_inj hp.2 hq.2 h
  exact Prod.ext h1 h2⟩
end Go.Proofs.YtcdjdnbdblpofaaDoor
