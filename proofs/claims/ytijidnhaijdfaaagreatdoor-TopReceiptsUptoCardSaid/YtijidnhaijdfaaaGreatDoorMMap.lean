/-
  Maps of texts: what a block of the memory holds, as a function of a text. Conditions: none.
-/
import Derived.Maps.OwnSet
import Derived.Maps.RangeWalk
import Derived.Below
import Derived.Laws.OwnMore
import Derived.DeepKeys4
import Derived.StringKeys
import Derived.WalkKit
import Derived.ProofKit
import Derived.WalkSpells
import Derived.Lib.Hide
import Derived.Test.YtijidnhaijdfaaaGreatDoorProg
import Derived.Test.YtijidnhaijdfaaaGreatDoorFlow
import Derived.Test.YtijidnhaijdfaaaGreatDoorBase
import Derived.Test.YtijidnhaijdfaaaGreatDoorRange
namespace Go.Proofs.YtijidnhaijdfaaaGreatDoor
open Go.RowKit Go.Maps
attribute [local go_sem] leftBy
set_option linter.unusedSimpArgs false
set_option linter.unusedVariables false

theorem lawStr : Keyed Tryz.prog 9 := string_keyed Tryz.underlying9
theorem keyStr (s : ByteArray) (hs : s.size ≤ maxLen) : keyOf Tryz.prog 9 (.string s) = some (.string s.data.toList) := Go.WideMaps.keyOf_string_mk Tryz.underlying9 hs

/-- How an element of a map reads: by itself. -/
def heldR (v : Value) : Option (DataW Value × List MemPlace) := some (.held v, [])

theorem owns_of {W W' : World} {k : TypeId} {R : Value → Option (DataW Value × List MemPlace)} {b n : Nat} {D : DataW Value} (h : W.ownsMap Tryz.prog k R b n D) (e : W'.heap[b]? = W.heap[b]?) : W'.ownsMap Tryz.prog k R b n D := by
  obtain ⟨es, clock, h1, h2⟩ := h
  exact ⟨es, clock, e.trans h1, h2⟩

/-- 'v, ok := m[k]'. -/
theorem look2 {W : World} {t k e : TypeId} (K : Keyed Tryz.prog k) (ht : Tryz.prog.underlying t = some (.map k e)) {b n : Nat} {D : DataW Value} (h : W.ownsMap Tryz.prog k heldR b n D) {z : Value} (hz : ∀ w, (zeroValue e).run Tryz.prog w = .ok z w)
    {key : Value} {kl : Lit} (hkey : keyOf Tryz.prog k key = some kl) {v : Value} (hv : D.atKey kl (.held z) = .held v) :
    ∀ W' : World, W'.heap[b]? = W.heap[b]? → (Instr.lookup t (.map (some b)) key true).run Tryz.prog W' = .ok (.tuple #[v, .bool (Maps.has D kl)]) W' := by
  intro W' e
  obtain ⟨v', ps, hr, hR⟩ := (owns_of h e).look_ok K ht (hz W') rfl hkey
  have h1 : (DataW.held v' : DataW Value) = D.atKey kl (.held z) := congrArg Prod.fst (Option.some.inj hR)
  rw [hv] at h1
  rw [← DataW.held.inj h1]
  exact hr
/-- 'v := m[k]'. -/
theorem look1 {W : World} {t k e : TypeId} (K : Keyed Tryz.prog k) (ht : Tryz.prog.underlying t = some (.map k e)) {b n : Nat} {D : DataW Value} (h : W.ownsMap Tryz.prog k heldR b n D) {z : Value} (hz : ∀ w, (zeroValue e).run Tryz.prog w = .ok z w)
    {key : Value} {kl : Lit} (hkey : keyOf Tryz.prog k key = some kl) {v : Value} (hv : D.atKey kl (.held z) = .held v) :
    ∀ W' : World, W'.heap[b]? = W.heap[b]? → (Instr.lookup t (.map (some b)) key false).run Tryz.prog W' = .ok v W' := by
  intro W' e
  obtain ⟨v', ps, hr, hR⟩ := (owns_of h e).lookup K ht (hz W') rfl hkey
  have h1 : (DataW.held v' : DataW Value) = D.atKey kl (.held z) := congrArg Prod.fst (Option.some.inj hR)
  rw [hv] at h1
  rw [← DataW.held.inj h1]
  exact hr

/-- Block mb is a map of at most N entries; under key i it holds what f says. -/
def MV {ι : Type} (W : World) (kt : TypeId) (kv : ι → Value) (ok : ι → Prop) (mb N : Nat) (z : Value) (f : ι → Option Value) : Prop :=
  ∃ D : DataW Value, W.ownsMap Tryz.prog kt heldR mb N D ∧ ∀ i kl, ok i → keyOf Tryz.prog kt (kv i) = some kl → Maps.has D kl = (f i).isSome ∧ D.atKey kl (.held z) = .held ((f i).getD z)

/-- What is to be known of a kind of keys. -/
structure KeyOK {ι : Type} (kt : TypeId) (kv : ι → Value) (ok : ι → Prop) : Prop where
  keyed : Keyed Tryz.prog kt
  some : ∀ i, ok i → ∃ kl, keyOf Tryz.prog kt (kv i) = some kl
  inj : ∀ i j, ok i → ok j → kv i = kv j → i = j

section
variable {ι : Type} {W : World} {kt : TypeId} {kv : ι → Value} {ok : ι → Prop} {mb N : Nat} {z : Value} {f : ι → Option Value}

theorem MV.lt (h : MV W kt kv ok mb N z f) : mb < W.heap.size := let ⟨_, h, _⟩ := h; h.lt
theorem MV.isMap (h : MV W kt kv ok mb N z f) : ∃ es clock, W.heap[mb]? = some (.map es clock) := let ⟨_, ⟨es, clock, h, _⟩, _⟩ := h; ⟨es, clock, h⟩
theorem MV.at_block {W' : World} (h : MV W kt kv ok mb N z f) (e : W'.heap[mb]? = W.heap[mb]?) : MV W' kt kv ok mb N z f := let ⟨D, h1, h2⟩ := h; ⟨D, owns_of h1 e, h2⟩
theorem MV.mono (h : MV W kt kv ok mb N z f) {N' : Nat} (hN : N ≤ N') : MV W kt kv ok mb N' z f := let ⟨D, h1, h2⟩ := h; ⟨D, h1.mono hN, h2⟩
theorem MV.ext {g : ι → Option Value} (h : MV W kt kv ok mb N z f) (e : ∀ i, ok i → f i = g i) : MV W kt kv ok mb N z g :=
  let ⟨D, h1, h2⟩ := h
  ⟨D, h1, fun i kl hi hk => (by rw [← e i hi]; exact h2 i kl hi hk)⟩
theorem MV.made (w : World) : MV (w.alloc (.map #[] 0)) kt kv ok w.heap.size 0 z (fun _ => none) :=
  ⟨_, World.ownsMap_made w _ _ _, fun i kl hi hk => ⟨rfl, rfl⟩⟩

theorem MV.look2 {t e : TypeId} (h : MV W kt kv ok mb N z f) (K : KeyOK kt kv ok) (ht : Tryz.prog.underlying t = some (.map kt e)) (hz : ∀ w, (zeroValue e).run Tryz.prog w = .ok z w) (i : ι) (hi : ok i) :
    ∀ W' : World, W'.heap[mb]? = W.heap[mb]? → (Instr.lookup t (.map (some mb)) (kv i) true).run Tryz.prog W' = .ok (.tuple #[(f i).getD z, .bool (f i).isSome]) W' := by
  intro W' e
  obtain ⟨D, h1, h2⟩ := h
  obtain ⟨kl, hk⟩ := K.some i hi
  obtain ⟨h3, h4⟩ := h2 i kl hi hk
  rw [← h3]
  exact Go.Proofs.YtijidnhaijdfaaaGreatDoor.look2 K.keyed ht h1 hz hk h4 W' e
theorem MV.look1 {t e : TypeId} (h : MV W kt kv ok mb N z f) (K : KeyOK kt kv ok) (ht : Tryz.prog.underlying t = some (.map kt e)) (hz : ∀ w, (zeroValue e).run Tryz.prog w = .ok z w) (i : ι) (hi : ok i) :
    ∀ W' : World, W'.heap[mb]? = W.heap[mb]? → (Instr.lookup t (.map (some mb)) (kv i) false).run Tryz.prog W' = .ok ((f i).getD z) W' := by
  intro W' e
  obtain ⟨D, h1, h2⟩ := h
  obtain ⟨kl, hk⟩ := K.some i hi
  obtain ⟨h3, h4⟩ := h2 i kl hi hk
  exact Go.Proofs.YtijidnhaijdfaaaGreatDoor.look1 K.keyed ht h1 hz hk h4 W' e
theorem MV.put [DecidableEq ι] {t e : TypeId} (h : MV W kt kv ok mb N z f) (K : KeyOK kt kv ok) (ht : Tryz.prog.underlying t = some (.map kt e)) (hN : N < maxLen) (i : ι) (hi : ok i) (v : Value) :
    ∃ w', (Instr.mapUpdate t (.map (some mb)) (kv i) v).run Tryz.prog W = .ok () w' ∧ MV w' kt kv ok mb (N + 1) z (fun j => if j = i then some v else f j) ∧ W.grownBy w' (some mb) := by
  obtain ⟨D, h1, h2⟩ := h
  obtain ⟨kl, hk⟩ := K.some i hi
  obtain ⟨w', hr, ho, hg⟩ := h1.update K.keyed ht hN hk (val := v) (d := .held v) (ps := []) rfl
  refine ⟨w', hr, ⟨_, ho, fun j kj hj hkj => ?_⟩, hg⟩
  by_cases e : j = i
  · subst e
    obtain rfl := Option.some.inj (hk.symm.trans hkj)
    dsimp only
    rw [if_pos rfl]
    exact ⟨has_put_same h1.isMap (K.keyed.key hk) _, atKey_put_same h1.isMap (K.keyed.key hk) _ _⟩
  · have hne : kj ≠ kl := fun e' => e (K.inj _ _ hj hi (K.keyed.inj (e' ▸ hkj) hk))
    dsimp only
    rw [if_neg e, has_put_other hne, atKey_put_other hne]
    exact h2 j kj hj hkj
end
/-- A text as a key. -/
def okT (a : ByteArray) : Prop := a.size ≤ maxLen
theorem keyT : KeyOK 9 Value.string okT := ⟨lawStr, fun a h => ⟨_, keyStr a h⟩, fun a b _ _ h => by injection h⟩
end Go.Proofs.YtijidnhaijdfaaaGreatDoor
