/-
  Bytes that a call owns: a string's bytes, and appends of one byte, whatever the mark behind the row. Conditions: none.
-/
import Derived.Test.YtcdjdnbdblpofaaDoorKBase
import Derived.Laws.AppendOwn
import Derived.Laws.IdiomStrings
import Derived.OwnWalk
namespace Go.Proofs.YtcdjdnbdblpofaaDoor
open Go.RowKit
set_option linter.unusedSimpArgs false
set_option linter.unusedVariables false

/-- The value v is a slice of n bytes f that begins a row of its own, at base or behind it. -/
def ownB (W : World) (base : Nat) (v : Value) (n : Nat) (f : Nat → Nat) : Prop :=
  (v = .slice none 0 0 ∧ n = 0) ∨ ∃ g cap cur fz, v = .slice (some ⟨g, 0, none⟩) n cap ∧ base ≤ g ∧ W.heap[g]? = some (.cells cur 5 fz) ∧ (fz = (0, 0) ∨ cap ≤ fz.1) ∧ n ≤ cap ∧ cap ≤ maxLen ∧ cur.size = cap ∧ ∀ j, j < n → cur[j]? = some (.int .u8 (f j : Nat))

theorem ownB.kept {W W' : World} {base n : Nat} {v : Value} {f : Nat → Nat} {row : Option Nat} (h : ownB W base v n f) (hg : W.grownBy W' row) (hne : v.ownBlock = none ∨ v.ownBlock ≠ row) : ownB W' base v n f := by
  rcases h with h | ⟨g, cap, cur, fz, rfl, hb, hgg, rest⟩
  · exact .inl h
  · refine .inr ⟨g, cap, cur, fz, rfl, hb, ?_, rest⟩
    rw [hg.block g (Array.getElem?_eq_some_iff.1 hgg).1 (by simpa [Value.ownBlock] using hne)]
    exact hgg
theorem ownB.alloc {W : World} {base n : Nat} {v : Value} {f : Nat → Nat} (h : ownB W base v n f) (o : Obj) : ownB (W.alloc o) base v n f :=
  h.kept (World.grownBy_alloc W o none) (by cases hv : v.ownBlock <;> simp)
theorem ownB.lt {W : World} {base n : Nat} {v : Value} {f : Nat → Nat} (h : ownB W base v n f) : ∀ k, v.ownBlock = some k → base ≤ k ∧ k < W.heap.size := by
  intro k hk
  rcases h with ⟨rfl, _⟩ | ⟨g, cap, cur, fz, rfl, hb, hg, _⟩
  · simp [Value.ownBlock] at hk
  · simp [Value.ownBlock] at hk
    subst hk
    exact ⟨hb, (Array.getElem?_eq_some_iff.1 hg).1⟩
theorem ownB.to {W : World} {base n : Nat} {v : Value} {f f' : Nat → Nat} (h : ownB W base v n f) (e : ∀ j, j < n → f j = f' j) : ownB W base v n f' := by
  rcases h with h | ⟨g, cap, cur, fz, hv, hb, hg, hz, hn, hm, hs, hc⟩
  · exact .inl h
  · exact .inr ⟨g, cap, cur, fz, hv, hb, hg, hz, hn, hm, hs, fun j hj => by rw [hc j hj, e j hj]⟩
theorem ownB_nil (W : World) (base : Nat) (f : Nat → Nat) : ownB W base (.slice none 0 0) 0 f := .inl ⟨rfl, rfl⟩

theorem infoY : (Tryd.prog.info? 5).map (fun i => (i.zero, i.size, i.bytes)) = some (some (.int .u8 0), 1, 1) := by kernel_rfl

theorem frozen_of {W : World} {g : Nat} {cur : Array Value} {t : TypeId} {fz : Nat × Nat} (h : W.heap[g]? = some (.cells cur t fz)) {cap j : Nat} (hz : fz = (0, 0) ∨ cap ≤ fz.1) (hj : j < cap) : W.frozen? ⟨g, j, none⟩ = false := by
  obtain ⟨lo, hi⟩ := fz
  simp only [World.frozen?, h, Bool.and_eq_false_iff, decide_eq_false_iff_not]
  rcases hz with hz | hz
  · cases hz
    right
    omega
  · left
    simp only at hz
    omega

theorem setCell_at {W : World} {g : Nat} {cur : Array Value} {t : TypeId} {fz : Nat × Nat} (h : W.heap[g]? = some (.cells cur t fz)) (j : Nat) (v : Value) : (W.setCell ⟨g, j, none⟩ v).heap[g]? = some (.cells (cur.setIfInBounds j v) t fz) := by
  rw [setCell_eq_setRow W g j cur t fz v h]
  exact setRow_heap W g cur _ t fz h

theorem run_append_byte {W : World} {base n : Nat} {v : Value} {f : Nat → Nat} (h : ownB W base v n f) (x b : Nat) (ty : TypeId) (hx : W.cell? ⟨x, 0, none⟩ = some (.int .u8 (b : Nat))) (hn : n + 1 ≤ 140737488355328) (hbase : base ≤ W.heap.size) :
    ∃ v' W', (Builtin.append_ #[110, 110] ty #[v, .slice (some ⟨x, 0, none⟩) 1 1]).run Tryd.prog W = .ok v' W' ∧ ownB W' base v' (n + 1) (fun j => if j = n then b else f j) ∧ W.grownBy W' v.ownBlock := by
  obtain ⟨i, hi, hz0, hz1, hz2⟩ := info_parts infoY
  have ht := Tryd.underlying110
  have hmax : maxLen = 9223372036854775807 := rfl
  have hadd : ∀ q j : Nat, (⟨q, 0, none⟩ : Addr).add j = ⟨q, j, none⟩ := fun q j => by unfold Addr.add; split <;> simp_all
  have hnews : ∀ j u, [Value.int .u8 (b : Nat)][j]? = some u → W.cell? ((⟨x, 0, none⟩ : Addr).add j) = some u := by
    intro j u hu
    match j, hu with
    | 0, hu => simp at hu; subst hu; rw [hadd]; exact hx
  have hf1 : ∀ j, j < n + 1 → ∀ cs : Array Value, cs.size = n → (∀ j, j < n → cs[j]? = some (.int .u8 (f j : Nat))) → (cs.push (.int .u8 (b : Nat)))[j]? = some (.int .u8 ((if j = n then b else f j : Nat) : Nat)) := by
    intro j hj cs hs hc
    rw [Array.getElem?_push, hs]
    by_cases e : j = n
    · rw [if_pos e, if_pos e]
    · rw [if_neg e, if_neg e, hc j (by omega)]
  rcases h with ⟨rfl, rfl⟩ | ⟨g, cap, cur, fz, rfl, hbg, hg, hz, hnc, hcm, hcs, hc⟩
  · have hr := run_append_nil (P := Tryd.prog) W 110 ty 5 i (.int .u8 0) ht hi hz0 ⟨x, 0, none⟩ 1 1 [.int .u8 (b : Nat)] (by rw [hz1]; rfl) hnews (by omega) (by omega) (by rw [hz2]; omega)
    have hge := grownCap_ge W 1 0 5
    refine ⟨_, _, hr, .inr ⟨W.heap.size, _, _, (0, 0), rfl, hbase, heap_alloc_new W.drew _, .inl rfl, by omega, grownCap_le_maxLen W 1 0 _ (by omega), ?_, ?_⟩, ⟨rfl, rfl, rfl, by simp, fun k hk _ => heap_alloc_old W.drew _ k hk⟩⟩
    · simp only [Array.size_append, List.size_toArray, size_zeroCells, Value.cells]
      simp
      omega
    · intro j hj
      obtain rfl : j = 0 := by omega
      rw [Array.getElem?_append_left (by simp)]
      rfl
  · by_cases hroom : n + 1 ≤ cap
    · have hcell : W.cell? ⟨g, n, none⟩ = some (cur[n]'(by omega)) := by
        have : W.cell? ⟨g, n, none⟩ = cur[n]? := cell_of_row W g n cur _ fz hg
        rw [this]
        exact Array.getElem?_eq_getElem (by omega)
      have hst : (storeCells ⟨g, n, none⟩ [.int .u8 (b : Nat)] 0).run Tryd.prog W = .ok () (W.setCell ⟨g, n, none⟩ (.int .u8 (b : Nat))) := by
        have hz0' : (⟨g, n, none⟩ : Addr).add 0 = ⟨g, n, none⟩ := by unfold Addr.add; split <;> simp_all
        have hs1 := run_store Tryd.prog W ⟨g, n, none⟩ (.int .u8 (b : Nat)) .plain rfl
        simp only [hcell, frozen_of hg hz (show n < cap by omega)] at hs1
        simp [storeCells, hz0', hs1]
      have hff := run_firstCells_some (P := Tryd.prog) W i.size 1 ⟨x, 0, none⟩ 1 1 [.int .u8 (b : Nat)] (by rw [hz1]; rfl) hnews
      rw [hz1] at hff
      have hr : (Builtin.append_ #[110, 110] ty #[.slice (some ⟨g, 0, none⟩) n cap, .slice (some ⟨x, 0, none⟩) 1 1]).run Tryd.prog W = .ok (.slice (some ⟨g, 0, none⟩) (n + 1) cap) (W.setCell ⟨g, n, none⟩ (.int .u8 (b : Nat))) := by
        simp [Builtin.append_, run_underlying ht, sizeOf, typeInfo, hi, hz1, Builtin.lenOf, hroom, hff, Addr.add_lit, hst]
      refine ⟨_, _, hr, .inr ⟨g, cap, _, fz, rfl, hbg, setCell_at hg n _, hz, hroom, hcm, by simpa using hcs, ?_⟩, ⟨rfl, rfl, rfl, by simp, fun k _ hk => Below.heap_setCell _ _ _ _ (fun e => hk (by simp [Value.ownBlock, e]))⟩⟩
      intro j hj
      rw [Array.getElem?_setIfInBounds]
      by_cases e : n = j
      · subst e
        simp [hcs]
        omega
      · rw [if_neg e]
        show cur[j]? = some (.int .u8 ((if j = n then b else f j : Nat) : Int))
        rw [if_neg (Ne.symm e), hc j (by omega)]
    · have hcn : cap = n := by omega
      subst hcn
      have holds : ∀ j u, cur.toList[j]? = some u → W.cell? ((⟨g, 0, none⟩ : Addr).add j) = some u := by
        intro j u hu
        rw [hadd, cell_of_row W g j cur _ fz hg]
        simpa using hu
      have hr := run_append_grow (P := Tryd.prog) W 110 ty 5 i (.int .u8 0) ht hi hz0 ⟨g, 0, none⟩ cap cap cur.toList (by rw [hz1]; simpa using hcs) holds ⟨x, 0, none⟩ 1 1 [.int .u8 (b : Nat)] (by rw [hz1]; rfl) hnews (by omega) (by omega) (growslice_fits (by omega) (by rw [hz2]; omega))
      have hge := grownCap_ge W (cap + 1) cap 5
      refine ⟨_, _, hr, .inr ⟨W.heap.size, _, _, (0, 0), rfl, hbase, heap_alloc_new W.drew _, .inl rfl, hge, grownCap_le_maxLen W (cap + 1) cap _ (by omega), ?_, ?_⟩, ⟨rfl, rfl, rfl, by simp, fun k hk _ => heap_alloc_old W.drew _ k hk⟩⟩
      · simp only [Array.size_append, List.size_toArray, size_zeroCells, Value.cells, Array.length_toList, hcs]
        simp
        omega
      · intro j hj
        have e1 : (cur.toList.toArray ++ [Value.int .u8 (b : Nat)].toArray ++ Builtin.zeroCells (Value.int .u8 0).cells (grownCap W (cap + 1) cap 5 - (cap + 1)))[j]? = (cur.push (.int .u8 (b : Nat)))[j]? := by
          rw [Array.getElem?_append_left (by simp [hcs]; omega)]
          simp
        rw [e1]
        exact hf1 j hj cur hcs hc

theorem wpList_append_byte {W : World} {ops : Array Oper} {rest : List Oper} {o : Oper} {a : Act} {Q : Exit → Act → World → Prop} (hgd : o.guard = none) (s x : Operand)
    (ho : o.op = .call { callee := .builtin .append, args := #[s, x], argTypes := #[110, 110] }) {base n : Nat} {v : Value} {f : Nat → Nat} (hs : a.eval s = v) (hown : ownB W base v n f)
    (p b : Nat) (hx : a.eval x = .slice (some ⟨p, 0, none⟩) 1 1) (hc : W.cell? ⟨p, 0, none⟩ = some (.int .u8 (b : Nat))) (hn : n + 1 ≤ 140737488355328) (hbase : base ≤ W.heap.size)
    (h : ∀ v' W', ownB W' base v' (n + 1) (fun j => if j = n then b else f j) → W.grownBy W' v.ownBlock → wpList Tryd.prog ops Q rest (a.put o.dst v') W') : wpList Tryd.prog ops Q (o :: rest) a W := by
  refine wpList_plain hgd fun K hK => ?_
  obtain ⟨v', W', hr, h2, h3⟩ := run_append_byte hown p b o.type hc hn hbase
  unfold Oper.wp execOp
  simp only [ho, resolve, invoke, builtin, Sem.run_bind, Sem.run_pure, Result.andThen_ok, List.map_toArray, List.map_cons, List.map_nil, hs, hx, hr]
  exact hK _ _ (h v' W' h2 h3)

/-- Byte j of a string. -/
def byteAt (s : ByteArray) (j : Nat) : Nat := (s.data.toList.getD j 0).toNat
theorem byteAt_lt (s : ByteArray) (j : Nat) : byteAt s j < 256 := UInt8.toNat_lt _

theorem wpList_bytes {W : World} {ops : Array Oper} {rest : List Oper} {o : Oper} {a : Act} {Q : Exit → Act → World → Prop} (hgd : o.guard = none) (x : Operand) (ho : o.op = .convert 9 110 x) {s : ByteArray} (hx : a.eval x = .string s) (hs : s.size ≤ maxLen)
    (h : ∀ v W', ownB W' W.heap.size v s.size (byteAt s) → Below W.heap.size W W' → wpList Tryd.prog ops Q rest (a.put o.dst v) W') : wpList Tryd.prog ops Q (o :: rest) a W := by
  refine wpList_plain hgd fun K hK => ?_
  have hr := run_bytes_of_string (P := Tryd.prog) W 9 110 5 s Tryd.underlying9 Tryd.underlying110 Tryd.underlying5
  have hge := grownCap_ge W s.size 0 5
  have hsz : (bytesRow s (grownCap W s.size 0 5)).size = grownCap W s.size 0 5 := by
    have e : s.data.size = s.size := rfl
    simp [bytesRow, e]
    omega
  unfold Oper.wp execOp
  simp only [ho, hx, Sem.run_bind, Sem.run_pure, Result.andThen_ok, hr]
  refine hK _ _ (h _ _ (.inr ⟨W.heap.size, _, _, _, rfl, Nat.le_refl _, heap_alloc_new W.drew _, .inr (by rw [hsz]; exact Nat.le_refl _), hge, grownCap_le_maxLen W _ 0 _ hs, hsz, ?_⟩) ⟨rfl, rfl, rfl, by simp, fun k hk => heap_alloc_old W.drew _ k hk⟩)
  intro j hj
  have hjd : j < s.data.size := hj
  unfold bytesRow byteAt
  rw [Array.getElem?_append_left (by simpa using hjd)]
  simp
  exact ⟨_, Array.getElem?_eq_getElem hjd, by rw [Array.getElem?_eq_getElem hjd]; rfl⟩

/-- Block g begins with the n bytes f. -/
def rowB (W : World) (g n : Nat) (f : Nat → Nat) : Prop := ∃ cur fz, W.heap[g]? = some (.cells cur 5 fz) ∧ ∀ j, j < n → cur[j]? = some (.int .u8 (f j : Nat))
theorem rowB.lt {W : World} {g n : Nat} {f : Nat → Nat} (h : rowB W g n f) : g < W.heap.size := let ⟨_, _, h, _⟩ := h; (Array.getElem?_eq_some_iff.1 h).1
theorem rowB.of {W W' : World} {g n : Nat} {f : Nat → Nat} (h : rowB W g n f) (e : W'.heap[g]? = W.heap[g]?) : rowB W' g n f := let ⟨c, z, h, h2⟩ := h; ⟨c, z, e.trans h, h2⟩
theorem rowB.below {W W' : World} {g n B : Nat} {f : Nat → Nat} (h : rowB W g n f) (hb : Below B W W') (hg : g < B) : rowB W' g n f := h.of (hb.block g hg)
theorem rowB.alloc {W : World} {g n : Nat} {f : Nat → Nat} (h : rowB W g n f) (o : Obj) : rowB (W.alloc o) g n f := h.of (Below.heap_alloc W o g h.lt)
theorem rowB.set {W : World} {g n p j : Nat} {f : Nat → Nat} {v : Value} (h : rowB W g n f) (hk : g ≠ p) : rowB (W.setCell ⟨p, j, none⟩ v) g n f := h.of (heap_set_ne hk)
theorem rowB.drewN {W : World} {g n : Nat} {f : Nat → Nat} (h : rowB W g n f) (m : Nat) : rowB (W.drewN m) g n f := h
theorem rowB.setRow_ne {W : World} {g n p : Nat} {f : Nat → Nat} {cs : Array Value} (h : rowB W g n f) (hk : g ≠ p) : rowB (W.setRow p cs) g n f := h.of (setRow_other W p g cs hk)
theorem rowB.fr {W W' : World} {g n : Nat} {f : Nat → Nat} {T : Nat → Prop} (h : rowB W g n f) (hb : Fr T W W') (hT : ¬ T g) : rowB W' g n f := h.of (hb.block g h.lt hT)
theorem rowB.cellAt {W : World} {g n j : Nat} {f : Nat → Nat} (h : rowB W g n f) (hj : j < n) : W.cell? ⟨g, j, none⟩ = some (.int .u8 (f j : Nat)) := by
  obtain ⟨c, z, h, h2⟩ := h
  rw [cell_of_row W g j c _ z h, h2 j hj]
theorem rowB.to {W : World} {g n : Nat} {f f' : Nat → Nat} (h : rowB W g n f) (e : ∀ j, j < n → f j = f' j) : rowB W g n f' := let ⟨c, z, h, h2⟩ := h; ⟨c, z, h, fun j hj => by rw [h2 j hj, e j hj]⟩

/-- A slice of one byte or more that is owned: where it lies; what a store into it does. -/
theorem ownB.parts {W : World} {base n : Nat} {v : Value} {f : Nat → Nat} (h : ownB W base v n f) (hn : 0 < n) : ∃ g cap, v = .slice (some ⟨g, 0, none⟩) n cap ∧ base ≤ g ∧ g < W.heap.size ∧ n ≤ cap ∧ cap ≤ maxLen ∧ rowB W g n f ∧ (∀ j, j < n → W.frozen? ⟨g, j, none⟩ = false) ∧
    ∀ j b, j < n → rowB (W.setCell ⟨g, j, none⟩ (.int .u8 (b : Nat))) g n (fun k => if k = j then b else f k) := by
  rcases h with ⟨_, h0⟩ | ⟨g, cap, cur, fz, hv, hb, hg, hz, hnc, hm, hs, hc⟩
  · omega
  · refine ⟨g, cap, hv, hb, (Array.getElem?_eq_some_iff.1 hg).1, hnc, hm, ⟨cur, fz, hg, hc⟩, fun j hj => frozen_of hg hz (by omega), fun j b hj => ⟨_, fz, setCell_at hg j _, fun k hk => ?_⟩⟩
    rw [Array.getElem?_setIfInBounds]
    by_cases e : j = k
    · subst e
      simp [hs]
      omega
    · rw [if_neg e]
      show cur[k]? = some (.int .u8 ((if k = j then b else f k : Nat) : Int))
      rw [if_neg (Ne.symm e), hc k hk]

/-- An append onto a row of its own leaves what lies ahead of it. -/
theorem grown_below {w W W' : World} {base n : Nat} {v : Value} {f : Nat → Nat} (hown : ownB W base v n f) (hbel : Below w.heap.size w W) (hB : w.heap.size ≤ base) (hg : W.grownBy W' v.ownBlock) : Below w.heap.size w W' := by
  refine hbel.grown hg (by have := hbel.size; omega) fun k hk => ?_
  have := (hown.lt k hk).1
  omega
end Go.Proofs.YtcdjdnbdblpofaaDoor
