/-
  Texts of one proof, one behind the other. Conditions: each text's own line says them.
-/
import Derived.Test.YtijidnhaijdfaaaGreatDoorProg
import Derived.Test.YtijidnhaijdfaaaGreatDoorFlow2
import Derived.Test.YtijidnhaijdfaaaGreatDoorRange
import Derived.Test.YtijidnhaijdfaaaGreatDoorBits
import Derived.Deep.WholeRow
import Derived.Laws.BitsAllLaws
import Derived.IntWalk
import Derived.Laws.AppendOwn
import Derived.Laws.IdiomStrings
import Derived.OwnWalk
import Derived.WalkKit
import Derived.Laws.Cover3

/- Rows of numbers of one kind, by the number at each place: plain facts. Conditions: none. -/
namespace Go.Proofs.YtijidnhaijdfaaaGreatDoor
open Go.RowKit

/-- m cells that hold numbers. -/
def numA (κ : IntKind) (m : Nat) (f : Nat → Nat) : Array Value := Array.ofFn (n := m) fun i => Value.int κ (f i : Nat)

section
variable {κ : IntKind} {m : Nat} {t : TypeId}
theorem numA_size (f : Nat → Nat) : (numA κ m f).size = m := by simp [numA]
theorem numA_get {f : Nat → Nat} {j : Nat} (h : j < m) : (numA κ m f)[j]? = some (.int κ (f j : Nat)) := by simp [numA, h]
theorem numA_congr {f g : Nat → Nat} (h : ∀ j, j < m → f j = g j) : numA κ m f = numA κ m g := by
  unfold numA
  congr 1
  funext i
  rw [h i i.2]
theorem numA_set {f : Nat → Nat} {j b : Nat} : (numA κ m f).setIfInBounds j (.int κ (b : Nat)) = numA κ m (fun k => if k = j then b else f k) := by
  apply Array.ext_getElem?
  intro k
  by_cases hk : k < m
  · rw [numA_get hk, Array.getElem?_setIfInBounds]
    by_cases h : j = k
    · subst h
      simp [numA_size, hk]
    · rw [if_neg h, numA_get hk, if_neg (Ne.symm h)]
  · rw [Array.getElem?_eq_none (by simp [numA_size]; omega), Array.getElem?_eq_none (by simp [numA_size]; omega)]
theorem numA_one (f : Nat → Nat) : (numA κ m f).all (·.oneCell') = true := by
  rw [Array.all_eq_true_iff_forall_mem]
  intro v hv
  obtain ⟨i, hi, rfl⟩ := Array.mem_iff_getElem.1 hv
  simp only [numA, Array.getElem_ofFn]
  rfl

/-- Block k holds the m numbers f. -/
def rowN (κ : IntKind) (m : Nat) (t : TypeId) (W : World) (k : Nat) (f : Nat → Nat) : Prop := W.heap[k]? = some (.cells (numA κ m f) t (0, 0))
variable {W W' : World} {k p j B : Nat} {f g : Nat → Nat}
theorem rowN.lt (h : rowN κ m t W k f) : k < W.heap.size := (Array.getElem?_eq_some_iff.1 h).1
theorem rowN.below (h : rowN κ m t W k f) (hb : Below B W W') (hk : k < B) : rowN κ m t W' k f := (hb.block k hk).trans h
theorem rowN.alloc (h : rowN κ m t W k f) (o : Obj) : rowN κ m t (W.alloc o) k f := (Below.heap_alloc W o k h.lt).trans h
theorem rowN.drewN (h : rowN κ m t W k f) (n : Nat) : rowN κ m t (W.drewN n) k f := h
theorem rowN.drew (h : rowN κ m t W k f) : rowN κ m t W.drew k f := h
theorem rowN.set {v : Value} (h : rowN κ m t W k f) (hk : k ≠ p) : rowN κ m t (W.setCell ⟨p, j, none⟩ v) k f := (heap_set_ne hk).trans h
theorem rowN.new (h : k = W.heap.size) : rowN κ m t (W.alloc (.cells (numA κ m f) t (0, 0))) k f := heap_new h
theorem rowN.cellAt (h : rowN κ m t W k f) (hj : j < m) : W.cell? ⟨k, j, none⟩ = some (.int κ (f j : Nat)) := by
  rw [cell_of_row W k j _ _ _ h, numA_get hj]
theorem rowN.free (h : rowN κ m t W k f) (j : Nat) : W.frozen? ⟨k, j, none⟩ = false := by
  unfold rowN at h
  simp [World.frozen?, h]
theorem rowN.store {b : Nat} (h : rowN κ m t W k f) : rowN κ m t (W.setCell ⟨k, j, none⟩ (.int κ (b : Nat))) k (fun i => if i = j then b else f i) := by
  unfold rowN
  rw [store1 h j (.int κ (b : Nat)), numA_set]
theorem rowN.to (h : rowN κ m t W k f) (e : ∀ j, j < m → f j = g j) : rowN κ m t W k g := by
  unfold rowN
  rw [← numA_congr e]
  exact h
theorem rowN.setRow (g : Nat → Nat) (h : rowN κ m t W k f) : rowN κ m t (W.setRow k (numA κ m g)) k g := setRow_heap W k _ _ _ _ h
theorem rowN.setRow_ne {cs : Array Value} (h : rowN κ m t W k f) (hk : k ≠ p) : rowN κ m t (W.setRow p cs) k f := (setRow_other W p k cs hk).trans h
theorem rowN.storeA {P : Program} (g : Nat → Nat) (h : rowN κ m t W k f) : (storeCells ⟨k, 0, none⟩ (numA κ m g).toList 0).run P W = .ok () (W.setRow k (numA κ m g)) := by
  have := run_storeCells_from (P := P) k t (numA κ m g).toList 0 (numA κ m f) W h (by simp [numA_size]) (fun v hv => (Array.all_eq_true_iff_forall_mem.1 (numA_one g)) v (by simpa using hv))
  simpa using this
end

theorem below_setRow' {B g : Nat} {w0 w : World} (hb : Below B w0 w) (hBg : B ≤ g) (cs : Array Value) : Below B w0 (w.setRow g cs) :=
  ⟨hb.os, hb.tape, hb.output, by simpa using hb.size, fun k hk => (setRow_other w g k cs (by omega)).trans (hb.block k hk)⟩

theorem Fr.setRow {T : Nat → Prop} {A W : World} (h : Fr T A W) {p : Nat} (hp : T p ∨ A.heap.size ≤ p) (cs : Array Value) : Fr T A (W.setRow p cs) :=
  ⟨h.os, h.tape, h.output, by simpa using h.size, fun k hk hT => (setRow_other W p k cs (by rintro rfl; rcases hp with hp | hp; exact hT hp; omega)).trans (h.block k hk hT)⟩

theorem numA_zero (κ : IntKind) (m : Nat) : numA κ m (fun _ => 0) = Array.replicate m (.int κ 0) := by
  apply Array.ext_getElem?
  intro k
  by_cases hk : k < m
  · rw [numA_get hk]
    simp [hk]
  · rw [Array.getElem?_eq_none (by simp [numA_size]; omega), Array.getElem?_eq_none (by simp; omega)]
theorem numA5 (κ : IntKind) : numA κ 5 (fun _ => 0) = #[.int κ 0, .int κ 0, .int κ 0, .int κ 0, .int κ 0] := by
  rw [numA_zero]
  rfl
theorem numA5_lit (κ : IntKind) (f : Nat → Nat) : numA κ 5 f = #[.int κ (f 0 : Nat), .int κ (f 1 : Nat), .int κ (f 2 : Nat), .int κ (f 3 : Nat), .int κ (f 4 : Nat)] := by
  apply Array.ext_getElem?
  intro k
  by_cases hk : k < 5
  · rw [numA_get hk]
    match k, hk with
    | 0, _ => rfl
    | 1, _ => rfl
    | 2, _ => rfl
    | 3, _ => rfl
    | 4, _ => rfl
  · rw [Array.getElem?_eq_none (by simp [numA_size]; omega), Array.getElem?_eq_none (by simp; omega)]
theorem numA25 (κ : IntKind) : numA κ 25 (fun _ => 0) = #[.int κ 0, .int κ 0, .int κ 0, .int κ 0, .int κ 0, .int κ 0, .int κ 0, .int κ 0, .int κ 0, .int κ 0, .int κ 0, .int κ 0, .int κ 0, .int κ 0, .int κ 0, .int κ 0, .int κ 0, .int κ 0, .int κ 0, .int κ 0, .int κ 0, .int κ 0, .int κ 0, .int κ 0, .int κ 0] := by
  rw [numA_zero]
  rfl
theorem numA32 (κ : IntKind) : numA κ 32 (fun _ => 0) = #[.int κ 0, .int κ 0, .int κ 0, .int κ 0, .int κ 0, .int κ 0, .int κ 0, .int κ 0, .int κ 0, .int κ 0, .int κ 0, .int κ 0, .int κ 0, .int κ 0, .int κ 0, .int κ 0, .int κ 0, .int κ 0, .int κ 0, .int κ 0, .int κ 0, .int κ 0, .int κ 0, .int κ 0, .int κ 0, .int κ 0, .int κ 0, .int κ 0, .int κ 0, .int κ 0, .int κ 0, .int κ 0] := by
  rw [numA_zero]
  rfl

/-! ### Lanes -/
theorem xor_lt {a b : Nat} (ha : a < M64) (hb : b < M64) : a ^^^ b < M64 := by
  have := Nat.xor_lt_two_pow (n := 64) (M64_pow ▸ ha) (M64_pow ▸ hb)
  rwa [← M64_pow] at this
theorem or_lt {a b : Nat} (ha : a < M64) (hb : b < M64) : a ||| b < M64 := by
  have := Nat.or_lt_two_pow (n := 64) (M64_pow ▸ ha) (M64_pow ▸ hb)
  rwa [← M64_pow] at this
theorem and_lt {a b : Nat} (ha : a < M64) : a &&& b < M64 := Nat.lt_of_le_of_lt Nat.and_le_left ha

theorem u64_xorN {a b : Nat} (ha : a < M64) (hb : b < M64) : bits .xor .u64 (a : Int) (b : Int) = ((a ^^^ b : Nat) : Int) := u64_xor_nat a b ha hb
theorem u64_orN {a b : Nat} (ha : a < M64) (hb : b < M64) : bits .or .u64 (a : Int) (b : Int) = ((a ||| b : Nat) : Int) := u64_or_nat a b ha hb
theorem u64_andN {a b : Nat} (ha : a < M64) (hb : b < M64) : bits .and .u64 (a : Int) (b : Int) = ((a &&& b : Nat) : Int) := u64_and_nat a b ha hb
theorem u64_wrapN (n : Nat) : IntKind.u64.wrap ((n : Nat) : Int) = ((n % M64 : Nat) : Int) := by
  rw [IntKind.wrap_u64]
  unfold M64
  omega

/-- A lane, turned left. -/
def rotl (x s : Nat) : Nat := x * 2 ^ s % M64 ||| x / 2 ^ (64 - s)
theorem rotl_lt {x s : Nat} (h : x < M64) : rotl x s < M64 := or_lt (Nat.mod_lt _ M64_pos) (Nat.lt_of_le_of_lt (Nat.div_le_self _ _) h)
theorem rotl_zero {x : Nat} (h : x < M64) : rotl x 0 = x := by
  unfold rotl
  rw [Nat.pow_zero, Nat.mul_one, Nat.mod_eq_of_lt h, Nat.sub_zero, ← M64_pow, Nat.div_eq_of_lt h, Nat.or_zero]
/-- A lane's bits, turned over. -/
def notl (x : Nat) : Nat := 18446744073709551615 ^^^ x
theorem notl_lt {x : Nat} (h : x < M64) : notl x < M64 := xor_lt (by decide) h
theorem u64_notN {x : Nat} (h : x < M64) : bits .xor .u64 18446744073709551615 (x : Int) = ((notl x : Nat) : Int) := u64_xorN (a := 18446744073709551615) (by decide) h

end Go.Proofs.YtijidnhaijdfaaaGreatDoor

/- Bytes that a call owns: a string's bytes, and appends of one byte, whatever the mark behind the row. Conditions: none. -/
namespace Go.Proofs.YtijidnhaijdfaaaGreatDoor
open Go.RowKit
set_option linter.unusedSimpArgs false
set_option linter.unusedVariables false

/-- The value v is a slice of n bytes f that begins a row of its own, at base or behind it. -/
def ownB (W : World) (base : Nat) (v : Value) (n : Nat) (f : Nat → Nat) : Prop :=
  (v = .slice none 0 0 ∧ n = 0) ∨ ∃ g cap cur fz, v = .slice (some ⟨g, 0, none⟩) n cap ∧ base ≤ g ∧ W.heap[g]? = some (.cells cur 5 fz) ∧ (fz = (0, 0) ∨ cap ≤ fz.1) ∧ n ≤ cap ∧ cap ≤ maxLen ∧ cur.size = cap ∧ ∀ j, j < n → cur[j]? = some (.int .u8 (f j : Nat))

theorem ownB.kept {W W' : World} {base n : Nat} {v : Value} {f : Nat → Nat} {row : Option Nat} (h : ownB W base v n f) (hg : W.grownBy W' row) (hne : v.ownBlock = none ∨ v.ownBlock ≠ row) : ownB W' base v n f := by
  rcases h with h | ⟨g, cap, cur, fz, rfl, hb, hgg, rest⟩
  · exact .inl h
  · refine .inr ⟨g, cap, cur, fz, rfl, hb, ?_, rest⟩
    rw [hg.block g (Array.getElem?_eq_some_iff.1 hgg).1 (by simpa [Value.ownBlock] using hne)]
    exact hgg
theorem ownB.alloc {W : World} {base n : Nat} {v : Value} {f : Nat → Nat} (h : ownB W base v n f) (o : Obj) : ownB (W.alloc o) base v n f :=
  h.kept (World.grownBy_alloc W o none) (by cases hv : v.ownBlock <;> simp)
theorem ownB.lt {W : World} {base n : Nat} {v : Value} {f : Nat → Nat} (h : ownB W base v n f) : ∀ k, v.ownBlock = some k → base ≤ k ∧ k < W.heap.size := by
  intro k hk
  rcases h with ⟨rfl, _⟩ | ⟨g, cap, cur, fz, rfl, hb, hg, _⟩
  · simp [Value.ownBlock] at hk
  · simp [Value.ownBlock] at hk
    subst hk
    exact ⟨hb, (Array.getElem?_eq_some_iff.1 hg).1⟩
theorem ownB.to {W : World} {base n : Nat} {v : Value} {f f' : Nat → Nat} (h : ownB W base v n f) (e : ∀ j, j < n → f j = f' j) : ownB W base v n f' := by
  rcases h with h | ⟨g, cap, cur, fz, hv, hb, hg, hz, hn, hm, hs, hc⟩
  · exact .inl h
  · exact .inr ⟨g, cap, cur, fz, hv, hb, hg, hz, hn, hm, hs, fun j hj => by rw [hc j hj, e j hj]⟩
theorem ownB_nil (W : World) (base : Nat) (f : Nat → Nat) : ownB W base (.slice none 0 0) 0 f := .inl ⟨rfl, rfl⟩

theorem infoY : (Tryz.prog.info? 5).map (fun i => (i.zero, i.size, i.bytes)) = some (some (.int .u8 0), 1, 1) := by kernel_rfl

theorem frozen_of {W : World} {g : Nat} {cur : Array Value} {t : TypeId} {fz : Nat × Nat} (h : W.heap[g]? = some (.cells cur t fz)) {cap j : Nat} (hz : fz = (0, 0) ∨ cap ≤ fz.1) (hj : j < cap) : W.frozen? ⟨g, j, none⟩ = false := by
  obtain ⟨lo, hi⟩ := fz
  simp only [World.frozen?, h, Bool.and_eq_false_iff, decide_eq_false_iff_not]
  rcases hz with hz | hz
  · cases hz
    right
    omega
  · left
    simp only at hz
    omega

theorem setCell_at {W : World} {g : Nat} {cur : Array Value} {t : TypeId} {fz : Nat × Nat} (h : W.heap[g]? = some (.cells cur t fz)) (j : Nat) (v : Value) : (W.setCell ⟨g, j, none⟩ v).heap[g]? = some (.cells (cur.setIfInBounds j v) t fz) := by
  rw [setCell_eq_setRow W g j cur t fz v h]
  exact setRow_heap W g cur _ t fz h

theorem run_append_byte {W : World} {base n : Nat} {v : Value} {f : Nat → Nat} (h : ownB W base v n f) (x b : Nat) (ty : TypeId) (hx : W.cell? ⟨x, 0, none⟩ = some (.int .u8 (b : Nat))) (hn : n + 1 ≤ 140737488355328) (hbase : base ≤ W.heap.size) :
    ∃ v' W', (Builtin.append_ #[60, 60] ty #[v, .slice (some ⟨x, 0, none⟩) 1 1]).run Tryz.prog W = .ok v' W' ∧ ownB W' base v' (n + 1) (fun j => if j = n then b else f j) ∧ W.grownBy W' v.ownBlock := by
  obtain ⟨i, hi, hz0, hz1, hz2⟩ := info_parts infoY
  have ht := Tryz.underlying60
  have hmax : maxLen = 9223372036854775807 := rfl
  have hadd : ∀ q j : Nat, (⟨q, 0, none⟩ : Addr).add j = ⟨q, j, none⟩ := fun q j => by unfold Addr.add; split <;> simp_all
  have hnews : ∀ j u, [Value.int .u8 (b : Nat)][j]? = some u → W.cell? ((⟨x, 0, none⟩ : Addr).add j) = some u := by
    intro j u hu
    match j, hu with
    | 0, hu => simp at hu; subst hu; rw [hadd]; exact hx
  have hf1 : ∀ j, j < n + 1 → ∀ cs : Array Value, cs.size = n → (∀ j, j < n → cs[j]? = some (.int .u8 (f j : Nat))) → (cs.push (.int .u8 (b : Nat)))[j]? = some (.int .u8 ((if j = n then b else f j : Nat) : Nat)) := by
    intro j hj cs hs hc
    rw [Array.getElem?_push, hs]
    by_cases e : j = n
    · rw [if_pos e, if_pos e]
    · rw [if_neg e, if_neg e, hc j (by omega)]
  rcases h with ⟨rfl, rfl⟩ | ⟨g, cap, cur, fz, rfl, hbg, hg, hz, hnc, hcm, hcs, hc⟩
  · have hr := run_append_nil (P := Tryz.prog) W 60 ty 5 i (.int .u8 0) ht hi hz0 ⟨x, 0, none⟩ 1 1 [.int .u8 (b : Nat)] (by rw [hz1]; rfl) hnews (by omega) (by omega) (by rw [hz2]; omega)
    have hge := grownCap_ge W 1 0 5
    refine ⟨_, _, hr, .inr ⟨W.heap.size, _, _, (0, 0), rfl, hbase, heap_alloc_new W.drew _, .inl rfl, by omega, grownCap_le_maxLen W 1 0 _ (by omega), ?_, ?_⟩, ⟨rfl, rfl, rfl, by simp, fun k hk _ => heap_alloc_old W.drew _ k hk⟩⟩
    · simp only [Array.size_append, List.size_toArray, size_zeroCells, Value.cells]
      simp
      omega
    · intro j hj
      obtain rfl : j = 0 := by omega
      rw [Array.getElem?_append_left (by simp)]
      rfl
  · by_cases hroom : n + 1 ≤ cap
    · have hcell : W.cell? ⟨g, n, none⟩ = some (cur[n]'(by omega)) := by
        have : W.cell? ⟨g, n, none⟩ = cur[n]? := cell_of_row W g n cur _ fz hg
        rw [this]
        exact Array.getElem?_eq_getElem (by omega)
      have hst : (storeCells ⟨g, n, none⟩ [.int .u8 (b : Nat)] 0).run Tryz.prog W = .ok () (W.setCell ⟨g, n, none⟩ (.int .u8 (b : Nat))) := by
        have hz0' : (⟨g, n, none⟩ : Addr).add 0 = ⟨g, n, none⟩ := by unfold Addr.add; split <;> simp_all
        have hs1 := run_store Tryz.prog W ⟨g, n, none⟩ (.int .u8 (b : Nat)) .plain rfl
        simp only [hcell, frozen_of hg hz (show n < cap by omega)] at hs1
        simp [storeCells, hz0', hs1]
      have hff := run_firstCells_some (P := Tryz.prog) W i.size 1 ⟨x, 0, none⟩ 1 1 [.int .u8 (b : Nat)] (by rw [hz1]; rfl) hnews
      rw [hz1] at hff
      have hr : (Builtin.append_ #[60, 60] ty #[.slice (some ⟨g, 0, none⟩) n cap, .slice (some ⟨x, 0, none⟩) 1 1]).run Tryz.prog W = .ok (.slice (some ⟨g, 0, none⟩) (n + 1) cap) (W.setCell ⟨g, n, none⟩ (.int .u8 (b : Nat))) := by
        simp [Builtin.append_, run_underlying ht, sizeOf, typeInfo, hi, hz1, Builtin.lenOf, hroom, hff, Addr.add_lit, hst]
      refine ⟨_, _, hr, .inr ⟨g, cap, _, fz, rfl, hbg, setCell_at hg n _, hz, hroom, hcm, by simpa using hcs, ?_⟩, ⟨rfl, rfl, rfl, by simp, fun k _ hk => Below.heap_setCell _ _ _ _ (fun e => hk (by simp [Value.ownBlock, e]))⟩⟩
      intro j hj
      rw [Array.getElem?_setIfInBounds]
      by_cases e : n = j
      · subst e
        simp [hcs]
        omega
      · rw [if_neg e]
        show cur[j]? = some (.int .u8 ((if j = n then b else f j : Nat) : Int))
        rw [if_neg (Ne.symm e), hc j (by omega)]
    · have hcn : cap = n := by omega
      subst hcn
      have holds : ∀ j u, cur.toList[j]? = some u → W.cell? ((⟨g, 0, none⟩ : Addr).add j) = some u := by
        intro j u hu
        rw [hadd, cell_of_row W g j cur _ fz hg]
        simpa using hu
      have hr := run_append_grow (P := Tryz.prog) W 60 ty 5 i (.int .u8 0) ht hi hz0 ⟨g, 0, none⟩ cap cap cur.toList (by rw [hz1]; simpa using hcs) holds ⟨x, 0, none⟩ 1 1 [.int .u8 (b : Nat)] (by rw [hz1]; rfl) hnews (by omega) (by omega) (growslice_fits (by omega) (by rw [hz2]; omega))
      have hge := grownCap_ge W (cap + 1) cap 5
      refine ⟨_, _, hr, .inr ⟨W.heap.size, _, _, (0, 0), rfl, hbase, heap_alloc_new W.drew _, .inl rfl, hge, grownCap_le_maxLen W (cap + 1) cap _ (by omega), ?_, ?_⟩, ⟨rfl, rfl, rfl, by simp, fun k hk _ => heap_alloc_old W.drew _ k hk⟩⟩
      · simp only [Array.size_append, List.size_toArray, size_zeroCells, Value.cells, Array.length_toList, hcs]
        simp
        omega
      · intro j hj
        have e1 : (cur.toList.toArray ++ [Value.int .u8 (b : Nat)].toArray ++ Builtin.zeroCells (Value.int .u8 0).cells (grownCap W (cap + 1) cap 5 - (cap + 1)))[j]? = (cur.push (.int .u8 (b : Nat)))[j]? := by
          rw [Array.getElem?_append_left (by simp [hcs]; omega)]
          simp
        rw [e1]
        exact hf1 j hj cur hcs hc

theorem wpList_append_byte {W : World} {ops : Array Oper} {rest : List Oper} {o : Oper} {a : Act} {Q : Exit → Act → World → Prop} (hgd : o.guard = none) (s x : Operand)
    (ho : o.op = .call { callee := .builtin .append, args := #[s, x], argTypes := #[60, 60] }) {base n : Nat} {v : Value} {f : Nat → Nat} (hs : a.eval s = v) (hown : ownB W base v n f)
    (p b : Nat) (hx : a.eval x = .slice (some ⟨p, 0, none⟩) 1 1) (hc : W.cell? ⟨p, 0, none⟩ = some (.int .u8 (b : Nat))) (hn : n + 1 ≤ 140737488355328) (hbase : base ≤ W.heap.size)
    (h : ∀ v' W', ownB W' base v' (n + 1) (fun j => if j = n then b else f j) → W.grownBy W' v.ownBlock → wpList Tryz.prog ops Q rest (a.put o.dst v') W') : wpList Tryz.prog ops Q (o :: rest) a W := by
  refine wpList_plain hgd fun K hK => ?_
  obtain ⟨v', W', hr, h2, h3⟩ := run_append_byte hown p b o.type hc hn hbase
  unfold Oper.wp execOp
  simp only [ho, resolve, invoke, builtin, Sem.run_bind, Sem.run_pure, Result.andThen_ok, List.map_toArray, List.map_cons, List.map_nil, hs, hx, hr]
  exact hK _ _ (h v' W' h2 h3)

/-- Byte j of a string. -/
def byteAt (s : ByteArray) (j : Nat) : Nat := (s.data.toList.getD j 0).toNat
theorem byteAt_lt (s : ByteArray) (j : Nat) : byteAt s j < 256 := UInt8.toNat_lt _

theorem wpList_bytes {W : World} {ops : Array Oper} {rest : List Oper} {o : Oper} {a : Act} {Q : Exit → Act → World → Prop} (hgd : o.guard = none) (x : Operand) (ho : o.op = .convert 9 60 x) {s : ByteArray} (hx : a.eval x = .string s) (hs : s.size ≤ maxLen)
    (h : ∀ v W', ownB W' W.heap.size v s.size (byteAt s) → Below W.heap.size W W' → wpList Tryz.prog ops Q rest (a.put o.dst v) W') : wpList Tryz.prog ops Q (o :: rest) a W := by
  refine wpList_plain hgd fun K hK => ?_
  have hr := run_bytes_of_string (P := Tryz.prog) W 9 60 5 s Tryz.underlying9 Tryz.underlying60 Tryz.underlying5
  have hge := grownCap_ge W s.size 0 5
  have hsz : (bytesRow s (grownCap W s.size 0 5)).size = grownCap W s.size 0 5 := by
    have e : s.data.size = s.size := rfl
    simp [bytesRow, e]
    omega
  unfold Oper.wp execOp
  simp only [ho, hx, Sem.run_bind, Sem.run_pure, Result.andThen_ok, hr]
  refine hK _ _ (h _ _ (.inr ⟨W.heap.size, _, _, _, rfl, Nat.le_refl _, heap_alloc_new W.drew _, .inr (by rw [hsz]; exact Nat.le_refl _), hge, grownCap_le_maxLen W _ 0 _ hs, hsz, ?_⟩) ⟨rfl, rfl, rfl, by simp, fun k hk => heap_alloc_old W.drew _ k hk⟩)
  intro j hj
  have hjd : j < s.data.size := hj
  unfold bytesRow byteAt
  rw [Array.getElem?_append_left (by simpa using hjd)]
  simp
  exact ⟨_, Array.getElem?_eq_getElem hjd, by rw [Array.getElem?_eq_getElem hjd]; rfl⟩

/-- Block g begins with the n bytes f. -/
def rowB (W : World) (g n : Nat) (f : Nat → Nat) : Prop := ∃ cur fz, W.heap[g]? = some (.cells cur 5 fz) ∧ ∀ j, j < n → cur[j]? = some (.int .u8 (f j : Nat))
theorem rowB.lt {W : World} {g n : Nat} {f : Nat → Nat} (h : rowB W g n f) : g < W.heap.size := let ⟨_, _, h, _⟩ := h; (Array.getElem?_eq_some_iff.1 h).1
theorem rowB.of {W W' : World} {g n : Nat} {f : Nat → Nat} (h : rowB W g n f) (e : W'.heap[g]? = W.heap[g]?) : rowB W' g n f := let ⟨c, z, h, h2⟩ := h; ⟨c, z, e.trans h, h2⟩
theorem rowB.below {W W' : World} {g n B : Nat} {f : Nat → Nat} (h : rowB W g n f) (hb : Below B W W') (hg : g < B) : rowB W' g n f := h.of (hb.block g hg)
theorem rowB.alloc {W : World} {g n : Nat} {f : Nat → Nat} (h : rowB W g n f) (o : Obj) : rowB (W.alloc o) g n f := h.of (Below.heap_alloc W o g h.lt)
theorem rowB.set {W : World} {g n p j : Nat} {f : Nat → Nat} {v : Value} (h : rowB W g n f) (hk : g ≠ p) : rowB (W.setCell ⟨p, j, none⟩ v) g n f := h.of (heap_set_ne hk)
theorem rowB.drewN {W : World} {g n : Nat} {f : Nat → Nat} (h : rowB W g n f) (m : Nat) : rowB (W.drewN m) g n f := h
theorem rowB.setRow_ne {W : World} {g n p : Nat} {f : Nat → Nat} {cs : Array Value} (h : rowB W g n f) (hk : g ≠ p) : rowB (W.setRow p cs) g n f := h.of (setRow_other W p g cs hk)
theorem rowB.fr {W W' : World} {g n : Nat} {f : Nat → Nat} {T : Nat → Prop} (h : rowB W g n f) (hb : Fr T W W') (hT : ¬ T g) : rowB W' g n f := h.of (hb.block g h.lt hT)
theorem rowB.cellAt {W : World} {g n j : Nat} {f : Nat → Nat} (h : rowB W g n f) (hj : j < n) : W.cell? ⟨g, j, none⟩ = some (.int .u8 (f j : Nat)) := by
  obtain ⟨c, z, h, h2⟩ := h
  rw [cell_of_row W g j c _ z h, h2 j hj]
theorem rowB.to {W : World} {g n : Nat} {f f' : Nat → Nat} (h : rowB W g n f) (e : ∀ j, j < n → f j = f' j) : rowB W g n f' := let ⟨c, z, h, h2⟩ := h; ⟨c, z, h, fun j hj => by rw [h2 j hj, e j hj]⟩

/-- A slice of one byte or more that is owned: where it lies; what a store into it does. -/
theorem ownB.parts {W : World} {base n : Nat} {v : Value} {f : Nat → Nat} (h : ownB W base v n f) (hn : 0 < n) : ∃ g cap, v = .slice (some ⟨g, 0, none⟩) n cap ∧ base ≤ g ∧ g < W.heap.size ∧ n ≤ cap ∧ cap ≤ maxLen ∧ rowB W g n f ∧ (∀ j, j < n → W.frozen? ⟨g, j, none⟩ = false) ∧
    ∀ j b, j < n → rowB (W.setCell ⟨g, j, none⟩ (.int .u8 (b : Nat))) g n (fun k => if k = j then b else f k) := by
  rcases h with ⟨_, h0⟩ | ⟨g, cap, cur, fz, hv, hb, hg, hz, hnc, hm, hs, hc⟩
  · omega
  · refine ⟨g, cap, hv, hb, (Array.getElem?_eq_some_iff.1 hg).1, hnc, hm, ⟨cur, fz, hg, hc⟩, fun j hj => frozen_of hg hz (by omega), fun j b hj => ⟨_, fz, setCell_at hg j _, fun k hk => ?_⟩⟩
    rw [Array.getElem?_setIfInBounds]
    by_cases e : j = k
    · subst e
      simp [hs]
      omega
    · rw [if_neg e]
      show cur[k]? = some (.int .u8 ((if k = j then b else f k : Nat) : Int))
      rw [if_neg (Ne.symm e), hc k hk]

/-- An append onto a row of its own leaves what lies ahead of it. -/
theorem grown_below {w W W' : World} {base n : Nat} {v : Value} {f : Nat → Nat} (hown : ownB W base v n f) (hbel : Below w.heap.size w W) (hB : w.heap.size ≤ base) (hg : W.grownBy W' v.ownBlock) : Below w.heap.size w W' := by
  refine hbel.grown hg (by have := hbel.size; omega) fun k hk => ?_
  have := (hown.lt k hk).1
  omega
end Go.Proofs.YtijidnhaijdfaaaGreatDoor

/- What a round of Keccak computes, lane by lane: plain facts. Conditions: none. -/
namespace Go.Proofs.YtijidnhaijdfaaaGreatDoor
set_option linter.unusedVariables false

/-- The places to which lanes go, by how much they are turned, the rounds' constants. -/
def placesL : List Nat := [10, 7, 11, 17, 18, 3, 5, 16, 8, 21, 24, 4, 15, 23, 19, 13, 12, 2, 20, 14, 22, 9, 6, 1]
def turnsL : List Nat := [1, 3, 6, 10, 15, 21, 28, 36, 45, 55, 2, 14, 27, 41, 56, 8, 25, 43, 62, 18, 39, 61, 20, 44]
def rcL : List Nat := [1, 32898, 9223372036854808714, 9223372039002292224, 32907, 2147483649, 9223372039002292353, 9223372036854808585, 138, 136, 2147516425, 2147483658, 2147516555, 9223372036854775947, 9223372036854808713, 9223372036854808579, 9223372036854808578, 9223372036854775936, 32778, 9223372039002259466, 9223372039002292353, 9223372036854808704, 2147483649, 9223372039002292232]
/-- By how much each lane is turned. -/
def rotL : List Nat := [0, 1, 62, 28, 27, 36, 44, 6, 55, 20, 3, 10, 43, 25, 39, 41, 45, 15, 21, 8, 18, 2, 61, 56, 14]
/-- At which step a place is filled. -/
def posL : List Nat := [24, 23, 17, 5, 11, 6, 22, 1, 8, 21, 0, 2, 16, 15, 19, 12, 7, 3, 4, 14, 18, 9, 20, 13, 10]
def placesF (n : Nat) : Nat := placesL.getD n 0
def turnsF (n : Nat) : Nat := turnsL.getD n 0
def rcF (n : Nat) : Nat := rcL.getD n 0
def rotF (n : Nat) : Nat := rotL.getD n 0
def posF (n : Nat) : Nat := posL.getD n 24
/-- The lane that goes to a place. -/
def srcF (j : Nat) : Nat := (3 * (j / 5) + j % 5) % 5 + 5 * (j % 5)

theorem places_lt : ∀ n, n < 24 → placesF n < 25 := by decide
theorem turns_lt : ∀ n, n < 24 → turnsF n < 64 := by decide
theorem rot_lt : ∀ n, n < 25 → rotF n < 64 := by decide
theorem rc_lt : ∀ n, n < 24 → rcF n < M64 := by decide
theorem rc_all (n : Nat) : rcF n < M64 := by
  by_cases h : n < 24
  · exact rc_lt n h
  · have : rcF n = 0 := by
      unfold rcF
      rw [List.getD_eq_getElem?_getD, List.getElem?_eq_none (by simp [rcL]; omega)]
      rfl
    rw [this]
    exact M64_pos
theorem src_lt {j : Nat} (h : j < 25) : srcF j < 25 := by unfold srcF; omega
theorem pos_places : ∀ n, n < 24 → posF (placesF n) = n := by decide
theorem places_pos : ∀ j, j < 25 → posF j < 24 → placesF (posF j) = j := by decide
theorem src_places : ∀ n, n < 23 → srcF (placesF (n + 1)) = placesF n := by decide
theorem src_first : srcF (placesF 0) = 1 := by decide
theorem rot_turns : ∀ n, n < 24 → rotF (srcF (placesF n)) = turnsF n := by decide
theorem pos_zero : ∀ j, j < 25 → 24 ≤ posF j → j = 0 := by decide
theorem rot_first : rotF (srcF 0) = 0 ∧ srcF 0 = 0 := by decide

/-- All are lanes. -/
def LL (f : Nat → Nat) : Prop := ∀ j, f j < M64

/-- The first y lanes of a column together. -/
def colP (f : Nat → Nat) (x : Nat) : Nat → Nat
  | 0 => 0
  | y + 1 => colP f x y ^^^ f (x + 5 * y)
theorem colP_zero (f : Nat → Nat) (x : Nat) : colP f x 0 = 0 := rfl
theorem colP_succ (f : Nat → Nat) (x y : Nat) : colP f x (y + 1) = colP f x y ^^^ f (x + 5 * y) := rfl
theorem colP_lt {f : Nat → Nat} (h : LL f) (x : Nat) : ∀ y, colP f x y < M64
  | 0 => M64_pos
  | y + 1 => xor_lt (colP_lt h x y) (h _)
def colF (f : Nat → Nat) (x : Nat) : Nat := colP f x 5
theorem colF_lt {f : Nat → Nat} (h : LL f) (x : Nat) : colF f x < M64 := colP_lt h x 5

/-- The columns' sums behind n lanes. -/
def colN (f : Nat → Nat) (n : Nat) : Nat → Nat := fun x => colP f x ((n + 4 - x) / 5)
theorem colN_zero (f : Nat → Nat) : ∀ x, x < 5 → 0 = colN f 0 x := fun x hx => by
  unfold colN
  rw [show (0 + 4 - x) / 5 = 0 by omega, colP_zero]
theorem colN_succ (f : Nat → Nat) (n : Nat) : ∀ x, x < 5 → (if x = n % 5 then colN f n (n % 5) ^^^ f n else colN f n x) = colN f (n + 1) x := fun x hx => by
  unfold colN
  split
  · rename_i h
    subst h
    rw [show (n + 1 + 4 - n % 5) / 5 = (n + 4 - n % 5) / 5 + 1 by omega, colP_succ, show n % 5 + 5 * ((n + 4 - n % 5) / 5) = n by omega]
  · rename_i h
    rw [show (n + 1 + 4 - x) / 5 = (n + 4 - x) / 5 by omega]
theorem colN_all (f : Nat → Nat) : ∀ x, x < 5 → colN f 25 x = colF f x := fun x hx => by
  unfold colN colF
  rw [show (25 + 4 - x) / 5 = 5 by omega]
theorem colN_lt {f : Nat → Nat} (h : LL f) (n x : Nat) : colN f n x < M64 := colP_lt h x _

/-- The first step of a round. -/
def theF (f : Nat → Nat) (j : Nat) : Nat := f j ^^^ (colF f ((j + 4) % 5) ^^^ rotl (colF f ((j + 1) % 5)) 1)
theorem theF_lt {f : Nat → Nat} (h : LL f) : LL (theF f) := fun j => xor_lt (h j) (xor_lt (colF_lt h _) (rotl_lt (colF_lt h _)))
def theN (f : Nat → Nat) (n : Nat) : Nat → Nat := fun j => if j < n then theF f j else f j
theorem theN_zero (f : Nat → Nat) (j : Nat) : f j = theN f 0 j := by unfold theN; rw [if_neg (by omega)]
theorem theN_all (f : Nat → Nat) : ∀ j, j < 25 → theN f 25 j = theF f j := fun j hj => by unfold theN; rw [if_pos hj]
theorem theN_at (f : Nat → Nat) (n : Nat) : theN f n n = f n := by unfold theN; rw [if_neg (by omega)]
theorem theN_succ (f : Nat → Nat) (n j : Nat) : (if j = n then theF f n else theN f n j) = theN f (n + 1) j := by
  unfold theN
  by_cases h : j = n
  · subst h
    rw [if_pos rfl, if_pos (by omega)]
  · rw [if_neg h]
    by_cases h2 : j < n
    · rw [if_pos h2, if_pos (by omega)]
    · rw [if_neg h2, if_neg (by omega)]

/-- The second step: lanes turned and moved. -/
def rhoF (f : Nat → Nat) (j : Nat) : Nat := rotl (f (srcF j)) (rotF (srcF j))
theorem rhoF_lt {f : Nat → Nat} (h : LL f) : LL (rhoF f) := fun j => rotl_lt (h _)
/-- Behind n moves; the lane that is on its way. -/
def rhoN (f : Nat → Nat) (n : Nat) : Nat → Nat := fun j => if posF j < n then rhoF f j else f j
def rhoV (f : Nat → Nat) (n : Nat) : Nat := f (if n = 0 then 1 else placesF (n - 1))
theorem rhoN_zero (f : Nat → Nat) (j : Nat) : f j = rhoN f 0 j := by unfold rhoN; rw [if_neg (by omega)]
theorem rhoN_at {f : Nat → Nat} {n : Nat} (hn : n < 24) : rhoN f n (placesF n) = rhoV f (n + 1) := by
  unfold rhoN rhoV
  rw [pos_places n hn, if_neg (by omega), if_neg (by omega), Nat.add_sub_cancel]
theorem rhoV_next {f : Nat → Nat} {n : Nat} (hn : n < 24) : rotl (rhoV f n) (turnsF n) = rhoF f (placesF n) := by
  unfold rhoV rhoF
  rw [rot_turns n hn]
  congr 2
  cases n with
  | zero => rw [if_pos rfl, src_first]
  | succ n => rw [if_neg (by omega), src_places n (by omega), Nat.add_sub_cancel]
theorem rhoN_succ {f : Nat → Nat} {n : Nat} (hn : n < 24) : ∀ j, j < 25 → (if j = placesF n then rhoF f (placesF n) else rhoN f n j) = rhoN f (n + 1) j := fun j hj => by
  unfold rhoN
  by_cases h : j = placesF n
  · subst h
    rw [if_pos rfl, pos_places n hn, if_pos (by omega)]
  · rw [if_neg h]
    by_cases h2 : posF j < n
    · rw [if_pos h2, if_pos (by omega)]
    · rw [if_neg h2, if_neg]
      intro h3
      have h4 : posF j = n := by omega
      exact h (by rw [← h4, places_pos j hj (by omega)])
theorem rhoN_all {f : Nat → Nat} (hf : LL f) : ∀ j, j < 25 → rhoN f 24 j = rhoF f j := fun j hj => by
  unfold rhoN
  by_cases h : posF j < 24
  · rw [if_pos h]
  · rw [if_neg h]
    obtain rfl := pos_zero j hj (by omega)
    unfold rhoF
    rw [rot_first.1, rot_first.2, rotl_zero (hf 0)]
theorem rhoV_lt {f : Nat → Nat} (h : LL f) (n : Nat) : rhoV f n < M64 := h _

/-- The third step. -/
def chiF (f : Nat → Nat) (j : Nat) : Nat := f j ^^^ (notl (f (j / 5 * 5 + (j % 5 + 1) % 5)) &&& f (j / 5 * 5 + (j % 5 + 2) % 5))
theorem chiF_lt {f : Nat → Nat} (h : LL f) : LL (chiF f) := fun j => xor_lt (h j) (and_lt (notl_lt (h _)))
def chiN (f : Nat → Nat) (n : Nat) : Nat → Nat := fun j => if j < n then chiF f j else f j
theorem chiN_zero (f : Nat → Nat) (j : Nat) : f j = chiN f 0 j := by unfold chiN; rw [if_neg (by omega)]
theorem chiN_at {f : Nat → Nat} {n j : Nat} (h : n ≤ j) : chiN f n j = f j := by unfold chiN; rw [if_neg (by omega)]
theorem chiN_all (f : Nat → Nat) : ∀ j, j < 25 → chiN f 25 j = chiF f j := fun j hj => by unfold chiN; rw [if_pos hj]
theorem chiN_succ (f : Nat → Nat) (n j : Nat) : (if j = n then chiF f n else chiN f n j) = chiN f (n + 1) j := by
  unfold chiN
  by_cases h : j = n
  · subst h
    rw [if_pos rfl, if_pos (by omega)]
  · rw [if_neg h]
    by_cases h2 : j < n
    · rw [if_pos h2, if_pos (by omega)]
    · rw [if_neg h2, if_neg (by omega)]

/-- A round; all rounds up to one. -/
def rndF (i : Nat) (f : Nat → Nat) : Nat → Nat := fun j => if j = 0 then chiF (rhoF (theF f)) 0 ^^^ rcF i else chiF (rhoF (theF f)) j
theorem rndF_lt {f : Nat → Nat} (h : LL f) (i : Nat) : LL (rndF i f) := fun j => by
  unfold rndF
  split
  · exact xor_lt (chiF_lt (rhoF_lt (theF_lt h)) _) (rc_all i)
  · exact chiF_lt (rhoF_lt (theF_lt h)) _
def rnds (f : Nat → Nat) : Nat → (Nat → Nat)
  | 0 => f
  | i + 1 => rndF i (rnds f i)
theorem rnds_lt {f : Nat → Nat} (h : LL f) : ∀ i, LL (rnds f i)
  | 0 => h
  | i + 1 => rndF_lt (rnds_lt h i) i
theorem rnds_zero (f : Nat → Nat) : rnds f 0 = f := rfl
theorem rnds_succ (f : Nat → Nat) (i : Nat) : rnds f (i + 1) = rndF i (rnds f i) := rfl

/-- Bytes taken in: the first i of a block. -/
def takeB (f : Nat → Nat) (b : Nat → Nat) : Nat → (Nat → Nat)
  | 0 => f
  | i + 1 => fun j => if j = i / 8 then takeB f b i (i / 8) ^^^ b i * 2 ^ (8 * (i % 8)) else takeB f b i j
theorem takeB_zero (f b : Nat → Nat) : takeB f b 0 = f := rfl
theorem takeB_succ (f b : Nat → Nat) (i : Nat) : takeB f b (i + 1) = fun j => if j = i / 8 then takeB f b i (i / 8) ^^^ b i * 2 ^ (8 * (i % 8)) else takeB f b i j := rfl
theorem byte_lane {b k : Nat} (h : b < 256) : b * 2 ^ (8 * (k % 8)) < M64 := by
  have h1 : 2 ^ (8 * (k % 8)) ≤ 2 ^ 56 := Nat.pow_le_pow_right (by decide) (by omega)
  calc b * 2 ^ (8 * (k % 8)) ≤ 255 * 2 ^ 56 := Nat.mul_le_mul (by omega) h1
    _ < M64 := by decide
theorem takeB_lt {f b : Nat → Nat} (h : LL f) (hb : ∀ i, b i < 256) : ∀ i, LL (takeB f b i)
  | 0 => h
  | i + 1 => fun j => by
    rw [takeB_succ]
    show (if j = i / 8 then _ else _) < M64
    split
    · exact xor_lt (takeB_lt h hb i _) (byte_lane (hb i))
    · exact takeB_lt h hb i j
end Go.Proofs.YtijidnhaijdfaaaGreatDoor

/- The contracts of the small functions: a lane turned, a lane's place. Conditions: none. -/
namespace Go.Proofs.YtijidnhaijdfaaaGreatDoor
open Go.RowKit
attribute [local go_sem] leftBy
set_option linter.unusedSimpArgs false
set_option linter.unusedVariables false

theorem and63 {k : Nat} (h : k < 64) : bits .and .u64 ((k : Nat) : Int) 63 = ((k : Nat) : Int) := by
  rw [show (63 : Int) = ((63 : Nat) : Int) from rfl, u64_and_nat _ _ (by omega) (by decide)]
  congr 1
  have := Nat.and_two_pow_sub_one_eq_mod k 6
  rw [show 2 ^ 6 - 1 = 63 by decide, show 2 ^ 6 = 64 by decide] at this
  omega

theorem rot_bits {x s : Nat} (h : x < M64) : bits .or .u64 (IntKind.u64.wrap ((x : Nat) * 2 ^ s)) (((x : Nat) : Int) / 2 ^ (64 - s)) = ((rotl x s : Nat) : Int) := by
  have e2 : ((x : Nat) : Int) / 2 ^ (64 - s) = ((x / 2 ^ (64 - s) : Nat) : Int) := by push_cast; rfl
  rw [e2]
  have e : ((x : Int) * 2 ^ s) = ((x * 2 ^ s : Nat) : Int) := by push_cast; rfl
  rw [e, u64_wrapN, u64_orN (Nat.mod_lt _ M64_pos) (Nat.lt_of_le_of_lt (Nat.div_le_self _ _) h)]
  rfl

attribute [local irreducible] rotl

set_option maxHeartbeats 4000000 in
/-- bits.RotateLeft64. -/
theorem rotate_any (x k : Nat) (hx : x < M64) (hk : k < 64) (w : World) :
    Calls Tryz.prog 41 #[.int .u64 (x : Nat), .int .i64 (k : Nat)] w fun e w' => e = .returned (.int .u64 (rotl x k : Nat)) ∧ Below w.heap.size w w' := by
  have hxm : x < 18446744073709551616 := hx
  have h63 := and63 hk
  have hrb := rot_bits (s := k) hx
  go_enter Tryz.func41, Tryz.ntmps41
  go_wp2
  go_ret
  exact ⟨rfl, Below.refl _ _⟩
end Go.Proofs.YtijidnhaijdfaaaGreatDoor

/- The contract of keccak.permute: all rounds, in place. Conditions: the three tables stand in their blocks. -/
namespace Go.Proofs.YtijidnhaijdfaaaGreatDoor
open Go.RowKit
attribute [local go_sem] leftBy
set_option linter.unusedSimpArgs false
set_option linter.unusedVariables false

/-- Block g holds the m numbers f, whatever its type. -/
def tabN (κ : IntKind) (m : Nat) (W : World) (g : Nat) (f : Nat → Nat) : Prop := ∃ t fr, W.heap[g]? = some (.cells (numA κ m f) t fr)
theorem tabN.cellAt {κ : IntKind} {m : Nat} {W : World} {g j : Nat} {f : Nat → Nat} (h : tabN κ m W g f) (hj : j < m) : W.cell? ⟨g, j, none⟩ = some (.int κ (f j : Nat)) := by
  obtain ⟨t, fr, h⟩ := h
  have : W.cell? ⟨g, j, none⟩ = (numA κ m f)[j]? := by simp [World.cell?, h]
  rw [this, numA_get hj]
theorem tabN.fr {κ : IntKind} {m : Nat} {W W' : World} {g : Nat} {f : Nat → Nat} {T : Nat → Prop} (h : tabN κ m W g f) (hb : Fr T W W') (hT : ¬ T g) : tabN κ m W' g f := by
  obtain ⟨t, fr, h⟩ := h
  exact ⟨t, fr, (hb.block g (Array.getElem?_eq_some_iff.1 h).1 hT).trans h⟩
theorem rowN.fr {κ : IntKind} {m : Nat} {t : TypeId} {W W' : World} {g : Nat} {f : Nat → Nat} {T : Nat → Prop} (h : rowN κ m t W g f) (hb : Fr T W W') (hT : ¬ T g) : rowN κ m t W' g f := (hb.block g h.lt hT).trans h

/-- The program's tables. -/
structure KT (W : World) : Prop where
  places : tabN .i64 24 W 0 placesF
  turns : tabN .i64 24 W 1 turnsF
  rc : tabN .u64 24 W 2 rcF
theorem KT.fr {W W' : World} {T : Nat → Prop} (h : KT W) (hb : Fr T W W') (hT : ∀ k, T k → 3 ≤ k) : KT W' :=
  ⟨h.places.fr hb (fun h => by have := hT _ h; omega), h.turns.fr hb (fun h => by have := hT _ h; omega), h.rc.fr hb (fun h => by have := hT _ h; omega)⟩
theorem KT.below {W W' : World} {B : Nat} (h : KT W) (hb : Below B W W') (hB : 3 ≤ B) : KT W' := by
  obtain ⟨⟨t1, f1, h1⟩, ⟨t2, f2, h2⟩, ⟨t3, f3, h3⟩⟩ := h
  exact ⟨⟨t1, f1, (hb.block _ (by omega)).trans h1⟩, ⟨t2, f2, (hb.block _ (by omega)).trans h2⟩, ⟨t3, f3, (hb.block _ (by omega)).trans h3⟩⟩


theorem Fr.below' {T : Nat → Prop} {A W W' : World} {B : Nat} (h : Fr T A W) (hb : Below B W W') (hB : B = W.heap.size) : Fr T A W' := h.below (hB ▸ hb)
/-- The load of a whole table. -/
theorem tabN.load {κ : IntKind} {m : Nat} {W : World} {g : Nat} {f : Nat → Nat} {ty e : TypeId} (h : tabN κ m W g f) (hu : Tryz.prog.underlying ty = some (.array m e)) (hi : (Tryz.prog.info? ty).map (·.size) = some m) : (Instr.loadAt ty (.pointer (some ⟨g, 0, none⟩))).run Tryz.prog W = .ok (.agg (numA κ m f)) W := by
  obtain ⟨t, fr, h⟩ := h
  simp only [Instr.loadAt, Instr.sureAddr, Sem.run_bind, Sem.run_pure, Result.andThen]
  exact run_loadVar_row W g _ _ _ _ _ h hu rfl (by rw [numA_size]; exact hi)
theorem info24 : (Tryz.prog.info? 103).map (·.size) = some 24 := by kernel_rfl
theorem under24 : Tryz.prog.underlying 103 = some (.array 24 3) := by kernel_rfl

theorem index24 (f : Nat → Nat) {m : Nat} (hm : m < 24) (W : World) : (Instr.index 103 (.agg (numA .i64 24 f)) (.int .i64 (m : Nat))).run Tryz.prog W = .ok (.int .i64 (f m : Nat)) W := by
  have hb : (m : Int) < 24 := by omega
  have hg := numA_get (κ := .i64) (f := f) hm
  unfold Instr.index
  simp only [Sem.run_bind, run_underlying under24, Result.andThen_ok]
  go_simp

theorem len25 : Tryz.prog.arrayLen 62 = 25 := by kernel_rfl
theorem elem25 : Tryz.prog.elem 62 = 29 := by kernel_rfl
theorem under25 : Tryz.prog.underlying 62 = some (.array (Tryz.prog.arrayLen 62) (Tryz.prog.elem 62)) := by kernel_rfl
/-- Five lanes of a row as a slice. -/
theorem slice_five (k y : Nat) (hy : y + 5 ≤ 25) (W : World) : (Instr.sliceAt 62 (.pointer (some ⟨k, 0, none⟩)) (some (.int .i64 (y : Nat))) (some (.int .i64 ((y : Int) + 5))) none).run Tryz.prog W = .ok (.slice (some ⟨k, y, none⟩) 5 (25 - y)) W := by
  rw [run_sliceAt_array_lh W _ _ under25 _ _ _ _ (by omega) (by omega) (by rw [len25]; omega), elem25, Tryz.sizeOf29, Result.andThen_ok, len25]
  unfold slicedAt
  rw [if_neg (by omega)]
  have h1 : ((y : Int)).toNat = y := by omega
  have h2 : ((y : Int) + 5).toNat = y + 5 := by omega
  rw [h1, h2, Nat.add_sub_cancel_left]
  unfold Addr.add
  split <;> simp_all

/-- The end of a round. -/
def endF (i : Nat) (g : Nat → Nat) : Nat → Nat := fun j => if j = 0 then chiF g 0 ^^^ rcF i else chiF g j
theorem endF_at (i : Nat) (g : Nat → Nat) (j : Nat) : (if j = 0 then chiF g 0 ^^^ rcF i else chiF g j) = endF i g j := rfl
theorem u64_notM {x : Nat} (h : x < M64) : bits .xor .u64 (if IntKind.u64.signed = true then -1 else IntKind.u64.max) (x : Int) = ((notl x : Nat) : Int) := u64_notN h
theorem rnd_end (i : Nat) (f : Nat → Nat) : rndF i f = endF i (rhoF (theF f)) := rfl

attribute [local irreducible] endF colP theF rhoF chiF rndF rnds rotl notl placesF turnsF rcF numA

theorem info5 : (Tryz.prog.info? 101).map (·.size) = some 5 := by kernel_rfl
theorem under5 : Tryz.prog.underlying 101 = some (.array 5 29) := by kernel_rfl

set_option maxRecDepth 100000 in
set_option maxHeartbeats 4000000 in
/-- permute. -/
theorem permute_any (k : Nat) (f : Nat → Nat) (hf : LL f) (w : World) (hk : 3 ≤ k) (hT : KT w) (hrow : rowN .u64 25 62 w k f) :
    Calls Tryz.prog 21 #[.pointer (some ⟨k, 0, none⟩)] w fun e w' => e = .returned (.tuple #[]) ∧ rowN .u64 25 62 w' k (rnds f 24) ∧ Fr (fun j => j = k) w w' := by
  have hkw := hrow.lt
  go_enter Tryz.func21, Tryz.ntmps21
  go_wp2
  go_loopw [13] (fun i wr => ∃ n : Nat, n ≤ 24 ∧ i = .int .i64 n ∧ rowN .u64 25 62 wr k (rnds f n) ∧ Fr (fun j => j = k) w wr)
    (fun i _ => 24 - (intOf i).toNat)
  case atStart => exact ⟨0, by omega, rfl, by rw [rnds_zero]; exact hrow, Fr.refl _ _⟩
  case round =>
    obtain ⟨n, hn, rfl, hr0, hfr0⟩ := hrel
    have hT0 := hT.fr hfr0 (fun j hj => by omega)
    by_cases h24 : n < 24
    · have hF := rnds_lt hf n
      have hnx := Lib.hid (rnds_succ f n)
      generalize rnds f n = F at *
      have hk0 := hr0.lt
      have h24i : (n : Int) < 24 := by omega
      go_wp2
      rw [← numA5]
      have hcw := hfr0.size
      generalize hc0 : wr.heap.size = c0 at hcw hk0 ⊢
      have hkc := Nat.ne_of_lt hk0
      replace hc0 := Lib.hid hc0
      go_loopw [17] (fun i w1 => ∃ n : Nat, n ≤ 25 ∧ i = .int .i64 n ∧ rowN .u64 5 101 w1 c0 (colN F n) ∧ rowN .u64 25 62 w1 k F ∧ Fr (fun j => j = k) w w1)
        (fun i _ => 25 - (intOf i).toNat)
      case atStart =>
        refine ⟨0, by omega, rfl, (rowN.new hc0.out.symm).to (colN_zero F), hr0.alloc _, ?_⟩
        repeat (with_reducible first | exact Fr.refl _ _ | assumption | refine Fr.drewN ?_ _ | refine Fr.drew ?_ | refine Fr.setCell ?_ (by first | (left; rfl) | (right; omega)) _ | refine Fr.setRow ?_ (by first | (left; rfl) | (right; omega)) _ | refine Fr.alloc ?_ _)
      case round =>
        obtain ⟨m, hm, rfl, hrc, hrk, hfr1⟩ := hrel
        by_cases h25 : m < 25
        · have h25i : (m : Int) < 25 := by omega
          have cc := hrc.cellAt (j := m % 5) (by omega)
          have ck := hrk.cellAt h25
          have fc := hrc.free
          have hx := u64_xorN (colN_lt hF m (m % 5)) (hF m)
          go_wp2
          first | refine wp_flow (fun k => ([1, 1, 1, 1, 1, 1] : List Nat).getD k 1) Dr _ (Dr.next _ _) (by kernel_rfl) (by kernel_rfl) ?_ | refine wp_flow (fun k => ([1, 1, 1, 1, 1, 1] : List Nat).getD k 1) Dr _ (Dr.one _) (by kernel_rfl) (by kernel_rfl) ?_
          iterate 6 ((refine flow_quiet rfl rfl (fun K hK => ?_); apply Exists.intro; apply And.intro; (focus (rintro w' ⟨nn, rfl⟩; go_simp; (try go_bits); exact ⟨rfl, Dr.of _ _⟩)); go_simp; (try go_bits); refine hK _ ?_; clear hK K))
          refine flow_nil ?_
          rintro w' ⟨nq, rfl⟩
          go_wp2
          go_roundw
          case rel =>
            refine ⟨m + 1, by omega, by go_num, (hrc.drewN _).store.to (colN_succ F m), (hrk.drewN _).set (by omega), ?_⟩
            repeat (with_reducible first | exact Fr.refl _ _ | assumption | refine Fr.drewN ?_ _ | refine Fr.drew ?_ | refine Fr.setCell ?_ (by first | (left; rfl) | (right; omega)) _ | refine Fr.setRow ?_ (by first | (left; rfl) | (right; omega)) _ | refine Fr.alloc ?_ _)
          case measure => simp [intOf]; omega
        · have hmf : decide ((m : Int) < 25) = false := by simp; omega
          replace hrc := hrc.to (show ∀ x, x < 5 → colN F m x = colF F x by rw [show m = 25 by omega]; exact colN_all F)
          clear h25 hm
          go_wp2
          go_loopw [31] (fun i w1 => ∃ n : Nat, n ≤ 25 ∧ i = .int .i64 n ∧ rowN .u64 5 101 w1 c0 (colF F) ∧ rowN .u64 25 62 w1 k (theN F n) ∧ Fr (fun j => j = k) w w1)
            (fun i _ => 25 - (intOf i).toNat)
          case atStart => exact ⟨0, by omega, rfl, hrc, hrk.to fun j _ => theN_zero F j, hfr1⟩
          case round =>
            obtain ⟨m, hm, rfl, hrc, hrk, hfr1⟩ := hrel
            by_cases h25 : m < 25
            · have h25i : (m : Int) < 25 := by omega
              have hi1 : 0 ≤ ((m : Int) + 4) % 5 := by omega
              have hi2 : ((m : Int) + 4) % 5 < 5 := by omega
              have hi3 : (((m : Int) + 4) % 5).toNat = (m + 4) % 5 := by omega
              have hi4 : 0 ≤ ((m : Int) + 1) % 5 := by omega
              have hi5 : ((m : Int) + 1) % 5 < 5 := by omega
              have hi6 : (((m : Int) + 1) % 5).toNat = (m + 1) % 5 := by omega
              have c1 := hrc.cellAt (j := (m + 4) % 5) (by omega)
              have c2 := hrc.cellAt (j := (m + 1) % 5) (by omega)
              have ck := hrk.cellAt h25
              rw [theN_at] at ck
              have fk := hrk.free
              have cR : ∀ W, Calls Tryz.prog 41 #[.int .u64 (colF F ((m + 1) % 5) : Nat), .int .i64 1] W fun e w' => e = .returned (.int .u64 (rotl (colF F ((m + 1) % 5)) 1 : Nat)) ∧ Below W.heap.size W w' := fun W => rotate_any _ 1 (colF_lt hF _) (by decide) W
              have hx1 := u64_xorN (colF_lt hF ((m + 4) % 5)) (rotl_lt (s := 1) (colF_lt hF ((m + 1) % 5)))
              have hx2 : bits .xor .u64 ((F m : Nat) : Int) ((colF F ((m + 4) % 5) ^^^ rotl (colF F ((m + 1) % 5)) 1 : Nat) : Int) = ((theF F m : Nat) : Int) := by
                rw [u64_xorN (hF m) (xor_lt (colF_lt hF _) (rotl_lt (colF_lt hF _)))]
                unfold theF
                rfl
              have hkl := hrk.lt
              have hcl := hrc.lt
              go_wp2
              refine wp_flow (fun k => ([1, 1, 1, 1, 1, 1, 1, 1, 1, 1, 1, 1, 1, 1, 1, 1, 1, 1, 0, 1, 2] : List Nat).getD k 1) (Below (wr.heap.size)) _ (Below.drew (Below.refl _ _)) (by kernel_rfl) (by kernel_rfl) ?_
              iterate 15 ((refine flow_quiet rfl rfl (fun K hK => ?_); apply Exists.intro; apply And.intro; (focus (intro w' hw'; have hc := (bcell hw').1; go_simp; (try go_bits); all_goals (first | exact rfl | exact ⟨rfl, hw'⟩))); go_simp; (try go_bits); refine hK _ ?_; clear hK K))
              first | (refine flow_quiet rfl rfl (fun K hK => ?_); apply Exists.intro; apply And.intro; (focus (intro w' hw'; have hc := (bcell hw').1; go_simp; (try go_bits); all_goals (go_at_call 41; with_reducible refine (cR _).mono ?_; rintro e w2 ⟨rfl, hb⟩; exact ⟨rfl, hw'.trans (hb.mono (below_le hw' (by simp)))⟩))); go_simp; (try go_bits); refine hK _ ?_; clear hK K) | (refine flow_quiet rfl rfl (fun K hK => ?_); apply Exists.intro; apply And.intro; (focus (intro w' hw'; have hc := (bcell hw').1; go_simp; (try go_bits); all_goals (go_at_call 41; refine (cR _).mono ?_; rintro e w2 ⟨rfl, hb⟩; exact ⟨rfl, hw'.trans (hb.mono (below_le hw' (by simp)))⟩))); go_simp; (try go_bits); refine hK _ ?_; clear hK K)
              iterate 2 ((refine flow_quiet rfl rfl (fun K hK => ?_); apply Exists.intro; apply And.intro; (focus (intro w' hw'; have hc := (bcell hw').1; go_simp; (try go_bits); all_goals (first | exact rfl | exact ⟨rfl, hw'⟩))); go_simp; (try go_bits); refine hK _ ?_; clear hK K))
              (refine flow_late rfl rfl (fun K hK => ?_); apply Exists.intro; apply And.intro; (focus (intro w0 w' hlw; clear hlw; go_simp; (try go_bits); exact rfl)); go_simp; (try go_bits); refine hK _ ?_; clear hK K)
              (refine flow_quiet rfl rfl (fun K hK => ?_); apply Exists.intro; apply And.intro; (focus (intro w' hw'; have hc := (bcell hw').1; go_simp; (try go_bits); all_goals (first | exact rfl | exact ⟨rfl, hw'⟩))); go_simp; (try go_bits); refine hK _ ?_; clear hK K)
              (refine flow_eff rfl rfl (fun K hK => ?_); apply Exists.intro; apply Exists.intro; apply And.intro; (focus (intro w' hw'; have hc := (bcell hw').1; have hf := (bcell hw').2; go_simp; (try go_bits); refine ⟨rfl, ?_⟩; (repeat apply below_store); exact hw')); go_simp; (try go_bits); refine hK _ _ ?_; clear hK K)
              refine flow_nil ?_
              intro w' hw'
              go_wp2
              go_roundw
              case rel =>
                refine ⟨m + 1, by omega, by go_num, (hrc.set (by omega)).below hw' (by omega), (hrk.store.to fun j _ => theN_succ F m j).below hw' (by omega), (hfr1.setCell (Or.inl rfl) _).below' hw' (by simp)⟩
              case measure => simp [intOf]; omega
            · have hmf : decide ((m : Int) < 25) = false := by simp; omega
              replace hrk := hrk.to (show ∀ x, x < 25 → theN F m x = theF F x by rw [show m = 25 by omega]; exact theN_all F)
              clear h25 hm
              have hF2 := theF_lt hF
              have hnx2 := Lib.hid (show rnds f (n + 1) = endF n (rhoF (theF F)) from hnx.out.trans (rnd_end n F))
              generalize theF F = G at *
              have ck := hrk.cellAt (j := 1) (by omega)
              have hT1 := hT.fr hfr1 (fun j hj => by omega)
              obtain ⟨t0, f0, hg0⟩ := hT1.places
              have hs0 : (Tryz.prog.info? 103).map (·.size) = some (numA .i64 24 placesF).size := by rw [numA_size]; exact info24
              go_wp2_with (with_reducible refine wpList_load_row rfl 103 (.global 0) rfl _ rfl _ _ _ _ hg0 under24 rfl hs0 ?_)
              go_loopw [60, 7] (fun i v w1 => ∃ n : Nat, n ≤ 24 ∧ i = .int .i64 n ∧ v = .int .u64 (rhoV G n : Nat) ∧ rowN .u64 25 62 w1 k (rhoN G n) ∧ Fr (fun j => j = k) w w1)
                (fun i _ _ => 24 - (intOf i).toNat)
              case atStart => exact ⟨0, by omega, rfl, rfl, hrk.to fun j _ => rhoN_zero G j, hfr1⟩
              case round =>
                obtain ⟨m, hm, rfl, rfl, hrk, hfr1⟩ := hrel
                by_cases h24 : m < 24
                · have h24j : (m : Int) < 24 := by omega
                  have hix := fun W => index24 placesF h24 W
                  have hT1 := hT.fr hfr1 (fun j hj => by omega)
                  have ct := hT1.turns.cellAt h24
                  have hpl := places_lt m h24
                  have hpi : (placesF m : Int) < 25 := by omega
                  have ck := hrk.cellAt hpl
                  rw [rhoN_at h24] at ck
                  have fk := hrk.free
                  have hkl := hrk.lt
                  have h1w : 1 < wr.heap.size := by omega
                  have cR : ∀ W, Calls Tryz.prog 41 #[.int .u64 (rhoV G m : Nat), .int .i64 (turnsF m : Nat)] W fun e w' => e = .returned (.int .u64 (rhoF G (placesF m) : Nat)) ∧ Below W.heap.size W w' := fun W => by
                    rw [← rhoV_next h24]
                    exact rotate_any _ _ (rhoV_lt hF2 m) (turns_lt m h24) W
                  have hsu := rhoN_succ (f := G) h24
                  generalize placesF m = p at *
                  go_wp2
                  refine wp_flow (fun k => ([1, 1, 1, 1, 1, 1, 1, 1, 1, 1, 1, 1, 1, 0, 1, 2] : List Nat).getD k 1) (Below (wr.heap.size)) _ (Below.drew (Below.refl _ _)) (by kernel_rfl) (by kernel_rfl) ?_
                  iterate 11 ((refine flow_quiet rfl rfl (fun K hK => ?_); apply Exists.intro; apply And.intro; (focus (intro w' hw'; have hc := (bcell hw').1; go_simp; (try go_bits); all_goals (first | exact rfl | exact ⟨rfl, hw'⟩))); go_simp; (try go_bits); refine hK _ ?_; clear hK K))
                  first | (refine flow_quiet rfl rfl (fun K hK => ?_); apply Exists.intro; apply And.intro; (focus (intro w' hw'; have hc := (bcell hw').1; go_simp; (try go_bits); all_goals (go_at_call 41; with_reducible refine (cR _).mono ?_; rintro e w2 ⟨rfl, hb⟩; exact ⟨rfl, hw'.trans (hb.mono (below_le hw' (by simp)))⟩))); go_simp; (try go_bits); refine hK _ ?_; clear hK K) | (refine flow_quiet rfl rfl (fun K hK => ?_); apply Exists.intro; apply And.intro; (focus (intro w' hw'; have hc := (bcell hw').1; go_simp; (try go_bits); all_goals (go_at_call 41; refine (cR _).mono ?_; rintro e w2 ⟨rfl, hb⟩; exact ⟨rfl, hw'.trans (hb.mono (below_le hw' (by simp)))⟩))); go_simp; (try go_bits); refine hK _ ?_; clear hK K)
                  (refine flow_quiet rfl rfl (fun K hK => ?_); apply Exists.intro; apply And.intro; (focus (intro w' hw'; have hc := (bcell hw').1; go_simp; (try go_bits); all_goals (first | exact rfl | exact ⟨rfl, hw'⟩))); go_simp; (try go_bits); refine hK _ ?_; clear hK K)
                  (refine flow_late rfl rfl (fun K hK => ?_); apply Exists.intro; apply And.intro; (focus (intro w0 w' hlw; clear hlw; go_simp; (try go_bits); exact rfl)); go_simp; (try go_bits); refine hK _ ?_; clear hK K)
                  (refine flow_quiet rfl rfl (fun K hK => ?_); apply Exists.intro; apply And.intro; (focus (intro w' hw'; have hc := (bcell hw').1; go_simp; (try go_bits); all_goals (first | exact rfl | exact ⟨rfl, hw'⟩))); go_simp; (try go_bits); refine hK _ ?_; clear hK K)
                  (refine flow_eff rfl rfl (fun K hK => ?_); apply Exists.intro; apply Exists.intro; apply And.intro; (focus (intro w' hw'; have hc := (bcell hw').1; have hf := (bcell hw').2; go_simp; (try go_bits); refine ⟨rfl, ?_⟩; (repeat apply below_store); exact hw')); go_simp; (try go_bits); refine hK _ _ ?_; clear hK K)
                  refine flow_nil ?_
                  intro w' hw'
                  go_wp2
                  go_roundw
                  case rel => exact ⟨m + 1, by omega, by go_num, rfl, (hrk.store.to hsu).below hw' (by omega), (hfr1.setCell (Or.inl rfl) _).below' hw' (by simp)⟩
                  case measure => simp [intOf]; omega
                · have hmf : decide ((m : Int) < 24) = false := by simp; omega
                  replace hrk := hrk.to (show ∀ x, x < 25 → rhoN G m x = rhoF G x by rw [show m = 24 by omega]; exact rhoN_all hF2)
                  clear h24 hm
                  have hF3 := rhoF_lt hF2
                  generalize rhoF G = H at *
                  go_wp2
                  go_loopw [10] (fun i w1 => ∃ q : Nat, q ≤ 5 ∧ i = .int .i64 ((5 * q : Nat) : Int) ∧ rowN .u64 25 62 w1 k (chiN H (5 * q)) ∧ Fr (fun j => j = k) w w1)
                    (fun i _ => 25 - (intOf i).toNat)
                  case atStart => exact ⟨0, by omega, rfl, hrk.to fun j _ => chiN_zero H j, hfr1⟩
                  case round =>
                    obtain ⟨q, hq, rfl, hrk, hfr1⟩ := hrel
                    by_cases h5 : q < 5
                    · obtain ⟨y, hy⟩ : ∃ y, y = 5 * q := ⟨_, rfl⟩
                      rw [← hy] at hrk ⊢
                      have hy25 : (y : Int) < 25 := by omega
                      have hy20 : (y : Int) + 5 ≤ 25 := by omega
                      have e0 := hrk.cellAt (j := y) (by omega)
                      have e1 := hrk.cellAt (j := y + 1) (by omega)
                      have e2 := hrk.cellAt (j := y + 2) (by omega)
                      have e3 := hrk.cellAt (j := y + 3) (by omega)
                      have e4 := hrk.cellAt (j := y + 4) (by omega)
                      simp only [chiN_at (Nat.le_refl y), chiN_at (show y ≤ y + 1 by omega), chiN_at (show y ≤ y + 2 by omega), chiN_at (show y ≤ y + 3 by omega), chiN_at (show y ≤ y + 4 by omega)] at e0 e1 e2 e3 e4
                      have hsl := fun W => slice_five k y (by omega) W
                      have har := fun W => run_arrayAt (P := Tryz.prog) (w := W) 101 29 5 (some ⟨k, y, none⟩) 5 (25 - y) under5 (Nat.le_refl _)
                      have hkl := hrk.lt
                      have hrw := hfr1.size
                      replace hy := Lib.hid hy
                      go_wp2
                      generalize hr0 : wr.heap.size = r0 at hkl hrw ⊢
                      replace hr0 := Lib.hid hr0
                      have hkr := Nat.ne_of_lt hkl
                      go_loopw [91] (fun i w1 => ∃ x : Nat, x ≤ 5 ∧ i = .int .i64 x ∧ rowN .u64 25 62 w1 k (chiN H (y + x)) ∧ rowN .u64 5 101 w1 r0 (fun x => H (y + x)) ∧ Fr (fun j => j = k) w w1)
                        (fun i _ => 5 - (intOf i).toNat)
                      case atStart =>
                        refine ⟨0, by omega, rfl, ?_, ?_, ?_⟩
                        · exact hrk.alloc _
                        · unfold rowN
                          rw [numA5_lit]
                          exact heap_new hr0.out.symm
                        · skip
                          repeat (with_reducible first | exact Fr.refl _ _ | assumption | refine Fr.drewN ?_ _ | refine Fr.drew ?_ | refine Fr.setCell ?_ (by first | (left; rfl) | (right; omega)) _ | refine Fr.setRow ?_ (by first | (left; rfl) | (right; omega)) _ | refine Fr.alloc ?_ _)
                      case round =>
                        obtain ⟨x, hx, rfl, hrk, hrr, hfr1⟩ := hrel
                        by_cases h5 : x < 5
                        · have h5i : (x : Int) < 5 := by omega
                          have hi1 : 0 ≤ ((x : Int) + 1) % 5 := by omega
                          have hi2 : ((x : Int) + 1) % 5 < 5 := by omega
                          have hi3 : (((x : Int) + 1) % 5).toNat = (x + 1) % 5 := by omega
                          have hi4 : 0 ≤ ((x : Int) + 2) % 5 := by omega
                          have hi5 : ((x : Int) + 2) % 5 < 5 := by omega
                          have hi6 : (((x : Int) + 2) % 5).toNat = (x + 2) % 5 := by omega
                          have hi7 : 0 ≤ (y : Int) + (x : Int) := by omega
                          have hi8 : (y : Int) + (x : Int) < 25 := by omega
                          have hi9 : ((y : Int) + (x : Int)).toNat = y + x := by omega
                          have c0 := hrr.cellAt h5
                          have c1 := hrr.cellAt (j := (x + 1) % 5) (by omega)
                          have c2 := hrr.cellAt (j := (x + 2) % 5) (by omega)
                          have fk := hrk.free
                          have hn := u64_notM (hF3 (y + (x + 1) % 5))
                          have ck := hrk.cellAt (j := y + x) (by omega)
                          have ha := u64_andN (b := H (y + (x + 2) % 5)) (notl_lt (hF3 (y + (x + 1) % 5))) (hF3 _)
                          have hx1 : bits .xor .u64 ((H (y + x) : Nat) : Int) ((notl (H (y + (x + 1) % 5)) &&& H (y + (x + 2) % 5) : Nat) : Int) = ((chiF H (y + x) : Nat) : Int) := by
                            rw [u64_xorN (hF3 _) (and_lt (notl_lt (hF3 _)))]
                            unfold chiF
                            rw [show (y + x) / 5 * 5 = y by have := hy.out; omega, show (y + x) % 5 = x by have := hy.out; omega]
                          go_wp2
                          first | refine wp_flow (fun k => ([1, 1, 1, 1, 1, 1, 1, 1, 1, 1, 1, 1, 1, 1, 1, 1, 1, 1, 1, 1, 0, 1, 2] : List Nat).getD k 1) Dr _ (Dr.next _ _) (by kernel_rfl) (by kernel_rfl) ?_ | refine wp_flow (fun k => ([1, 1, 1, 1, 1, 1, 1, 1, 1, 1, 1, 1, 1, 1, 1, 1, 1, 1, 1, 1, 0, 1, 2] : List Nat).getD k 1) Dr _ (Dr.one _) (by kernel_rfl) (by kernel_rfl) ?_
                          iterate 20 ((refine flow_quiet rfl rfl (fun K hK => ?_); apply Exists.intro; apply And.intro; (focus (rintro w' ⟨nn, rfl⟩; go_simp; (try go_bits); exact ⟨rfl, Dr.of _ _⟩)); go_simp; (try go_bits); refine hK _ ?_; clear hK K))
                          (refine flow_late rfl rfl (fun K hK => ?_); apply Exists.intro; apply And.intro; (focus (intro w0 w' hlw; clear hlw; go_simp; (try go_bits); exact rfl)); go_simp; (try go_bits); refine hK _ ?_; clear hK K)
                          (refine flow_quiet rfl rfl (fun K hK => ?_); apply Exists.intro; apply And.intro; (focus (rintro w' ⟨nn, rfl⟩; go_simp; (try go_bits); exact ⟨rfl, Dr.of _ _⟩)); go_simp; (try go_bits); refine hK _ ?_; clear hK K)
                          (refine flow_eff rfl rfl (fun K hK => ?_); apply Exists.intro; apply Exists.intro; apply And.intro; (focus (rintro w' ⟨nn, rfl⟩; go_simp; (try go_bits); refine ⟨rfl, ?_⟩; with_reducible first | exact Dr.store _ _ _ _ | exact Dr.store4 _ _ _ _ _ _ _ _ _ _)); go_simp; (try go_bits); refine hK _ _ ?_; clear hK K)
                          refine flow_nil ?_
                          rintro w' ⟨nq, rfl⟩
                          go_wp2
                          go_roundw
                          case rel =>
                            refine ⟨x + 1, by omega, by go_num, (hrk.drewN _).store.to fun j _ => chiN_succ H (y + x) j, (hrr.drewN _).set (by omega), ?_⟩
                            repeat (with_reducible first | exact Fr.refl _ _ | assumption | refine Fr.drewN ?_ _ | refine Fr.drew ?_ | refine Fr.setCell ?_ (by first | (left; rfl) | (right; omega)) _ | refine Fr.setRow ?_ (by first | (left; rfl) | (right; omega)) _ | refine Fr.alloc ?_ _)
                          case measure => simp [intOf]; omega
                        · have hmf : decide ((x : Int) < 5) = false := by simp; omega
                          obtain rfl : x = 5 := by omega
                          go_wp2
                          go_roundw
                          case rel =>
                            refine ⟨q + 1, by omega, by have := hy.out; go_num, ?_, hfr1⟩
                            have : y + 5 = 5 * (q + 1) := by have := hy.out; omega
                            rw [← this]
                            exact hrk
                          case measure => simp [intOf]; omega
                    · have hmf : decide (5 * (q : Int) < 25) = false := by simp; omega
                      replace hrk := hrk.to (show ∀ x, x < 25 → chiN H (5 * q) x = chiF H x by rw [show 5 * q = 25 by omega]; exact chiN_all H)
                      clear h5 hq
                      have hT1 := hT.fr hfr1 (fun j hj => by omega)
                      have ct := hT1.rc.cellAt h24
                      have ck := hrk.cellAt (j := 0) (by omega)
                      have fk := hrk.free
                      have hx1 := u64_xorN (chiF_lt hF3 0) (rc_lt n h24)
                      go_wp2
                      first | refine wp_flow (fun k => ([1, 1, 1, 1, 1, 1, 1, 1, 0, 1, 2] : List Nat).getD k 1) Dr _ (Dr.next _ _) (by kernel_rfl) (by kernel_rfl) ?_ | refine wp_flow (fun k => ([1, 1, 1, 1, 1, 1, 1, 1, 0, 1, 2] : List Nat).getD k 1) Dr _ (Dr.one _) (by kernel_rfl) (by kernel_rfl) ?_
                      iterate 8 ((refine flow_quiet rfl rfl (fun K hK => ?_); apply Exists.intro; apply And.intro; (focus (rintro w' ⟨nn, rfl⟩; go_simp; (try go_bits); exact ⟨rfl, Dr.of _ _⟩)); go_simp; (try go_bits); refine hK _ ?_; clear hK K))
                      (refine flow_late rfl rfl (fun K hK => ?_); apply Exists.intro; apply And.intro; (focus (intro w0 w' hlw; clear hlw; go_simp; (try go_bits); exact rfl)); go_simp; (try go_bits); refine hK _ ?_; clear hK K)
                      (refine flow_quiet rfl rfl (fun K hK => ?_); apply Exists.intro; apply And.intro; (focus (rintro w' ⟨nn, rfl⟩; go_simp; (try go_bits); exact ⟨rfl, Dr.of _ _⟩)); go_simp; (try go_bits); refine hK _ ?_; clear hK K)
                      (refine flow_eff rfl rfl (fun K hK => ?_); apply Exists.intro; apply Exists.intro; apply And.intro; (focus (rintro w' ⟨nn, rfl⟩; go_simp; (try go_bits); refine ⟨rfl, ?_⟩; with_reducible first | exact Dr.store _ _ _ _ | exact Dr.store4 _ _ _ _ _ _ _ _ _ _)); go_simp; (try go_bits); refine hK _ _ ?_; clear hK K)
                      refine flow_nil ?_
                      rintro w' ⟨nq, rfl⟩
                      go_wp2
                      go_roundw
                      case rel =>
                        refine ⟨n + 1, by omega, by go_num, ?_, ?_⟩
                        · rw [hnx2.out]
                          exact (hrk.store.to fun j _ => endF_at n H j).drewN _
                        · skip
                          repeat (with_reducible first | exact Fr.refl _ _ | assumption | refine Fr.drewN ?_ _ | refine Fr.drew ?_ | refine Fr.setCell ?_ (by first | (left; rfl) | (right; omega)) _ | refine Fr.setRow ?_ (by first | (left; rfl) | (right; omega)) _ | refine Fr.alloc ?_ _)
                      case measure => simp [intOf]; omega
    · obtain rfl : n = 24 := by omega
      go_wp2
      refine bodyPost_end (by simp only [results, Tryz.results21]; go_simp; try rfl) rfl ⟨rfl, hr0, hfr0⟩
end Go.Proofs.YtijidnhaijdfaaaGreatDoor
