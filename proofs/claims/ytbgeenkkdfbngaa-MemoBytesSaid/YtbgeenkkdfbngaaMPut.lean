/-
  What put makes of a memory: the contracts of memo.put and of the document's put. Conditions: none.
-/
import Derived.Test.YtbgeenkkdfbngaaKBuf
import Derived.Test.YtbgeenkkdfbngaaMOf
import Derived.Test.YtbgeenkkdfbngaaFlow
import Derived.Laws.CopyRow
import Derived.Laws.BytesString
import Derived.WalkSpells
namespace Go.Proofs.Ytbgeenkkdfbngaa
open Go.RowKit
attribute [local go_sem] leftBy
set_option linter.unusedSimpArgs false
set_option linter.unusedVariables false


/-- n bytes as a string. -/
def strN (n : Nat) (f : Nat → Nat) : ByteArray := ((List.range n).map fun k => ((f k : Nat) : Int)).foldl (fun r x => r.push (UInt8.ofNat x.toNat)) ByteArray.empty

theorem foldl_push (l : List Int) : ∀ r : ByteArray, (l.foldl (fun r x => r.push (UInt8.ofNat x.toNat)) r).data.toList = r.data.toList ++ l.map (fun x => UInt8.ofNat x.toNat) := by
  induction l with
  | nil => intro r; simp
  | cons x l ih =>
    intro r
    rw [List.foldl_cons, ih]
    simp [ByteArray.push]
theorem strN_list (n : Nat) (f : Nat → Nat) : (strN n f).data.toList = (List.range n).map fun k => UInt8.ofNat (f k) := by
  unfold strN
  rw [foldl_push, List.map_map]
  simp
theorem list_bytes (s : ByteArray) : s.data.toList = (List.range s.size).map fun k => UInt8.ofNat (byteD s k) := by
  have hs : s.data.toList.length = s.size := by simp
  apply List.ext_getElem?
  intro k
  by_cases hk : k < s.size
  · simp only [List.getElem?_map, List.getElem?_range hk, Option.map_some]
    unfold byteD
    rw [List.getElem?_eq_getElem (by omega), List.getD_eq_getElem?_getD, List.getElem?_eq_getElem (by omega)]
    simp
  · rw [List.getElem?_eq_none (by omega), List.getElem?_eq_none (by simp; omega)]
theorem bytes_ext {s t : ByteArray} (hz : s.size = t.size) (h : ∀ k, k < s.size → byteD s k = byteD t k) : s = t := by
  have e : s.data.toList = t.data.toList := by
    rw [list_bytes s, list_bytes t, ← hz]
    refine List.map_congr_left fun k hk => ?_
    rw [h k (List.mem_range.1 hk)]
  cases s
  cases t
  simp at e
  rw [e]
theorem strN_size (n : Nat) (f : Nat → Nat) : (strN n f).size = n := by
  have h := congrArg List.length (strN_list n f)
  simp at h
  exact h
theorem strN_byte (n : Nat) (f : Nat → Nat) (hf : ∀ k, k < n → f k < 256) (k : Nat) (hk : k < n) : byteD (strN n f) k = f k := by
  unfold byteD
  rw [strN_list, List.getD_eq_getElem?_getD, List.getElem?_map, List.getElem?_range hk]
  simp
  exact hf k hk
theorem byteD_append (s t : ByteArray) (k : Nat) : byteD (s ++ t) k = if k < s.size then byteD s k else byteD t (k - s.size) := by
  have hs : s.data.toList.length = s.size := by simp
  unfold byteD
  rw [ByteArray.data_append, Array.toList_append, List.getD_eq_getElem?_getD, List.getElem?_append, hs]
  split
  · rw [List.getD_eq_getElem?_getD]
  · rw [List.getD_eq_getElem?_getD]
theorem byteD_extract (s : ByteArray) (a b k : Nat) (h : a + k < b) (hb : b ≤ s.size) : byteD (s.extract a b) k = byteD s (a + k) := by
  have hs : s.data.toList.length = s.size := by simp
  unfold byteD
  rw [ByteArray.data_extract, Array.toList_extract, List.getD_eq_getElem?_getD, List.getD_eq_getElem?_getD]
  congr 2
  simp only [List.extract_eq_take_drop, List.getElem?_take, List.getElem?_drop]
  rw [if_pos (by omega)]

/-- A memory in which a text lies at a place. -/
def putS (m : ByteArray) (off : Nat) (s : ByteArray) : ByteArray := m.extract 0 off ++ s ++ m.extract (off + s.size) m.size
theorem putS_size {m s : ByteArray} {off : Nat} (h : off + s.size ≤ m.size) : (putS m off s).size = m.size := by
  unfold putS
  rw [ByteArray.size_append, ByteArray.size_append, ByteArray.size_extract, ByteArray.size_extract]
  omega
theorem putS_byte {m s : ByteArray} {off : Nat} (h : off + s.size ≤ m.size) {k : Nat} (hk : k < m.size) : byteD (putS m off s) k = if off ≤ k ∧ k < off + s.size then byteD s (k - off) else byteD m k := by
  have h1 : (m.extract 0 off).size = off := by rw [ByteArray.size_extract]; omega
  unfold putS
  rw [byteD_append, byteD_append, ByteArray.size_append, h1]
  by_cases c1 : k < off
  · rw [if_pos (by omega), if_pos c1, if_neg (by omega), byteD_extract _ _ _ _ (by omega) (by omega), Nat.zero_add]
  · by_cases c2 : k < off + s.size
    · rw [if_pos c2, if_neg c1, if_pos (by omega)]
    · rw [if_neg c2, if_neg (by omega), byteD_extract _ _ _ _ (by omega) (by omega)]
      congr 1
      omega

/-- The bytes that a buffer holds behind a copy. -/
def laidF (f : Nat → Nat) (off : Nat) (s : ByteArray) : Nat → Nat := fun k => if off ≤ k ∧ k < off + s.size then byteD s (k - off) else f k
theorem strN_laid {m s : ByteArray} {off : Nat} (h : off + s.size ≤ m.size) : strN m.size (laidF (byteD m) off s) = putS m off s := by
  refine bytes_ext (by rw [strN_size, putS_size h]) fun k hk => ?_
  rw [strN_size] at hk
  rw [strN_byte _ _ (fun j _ => by unfold laidF; split <;> exact byteD_lt _ _) k hk, putS_byte h hk]
  rfl

theorem storeCells_at (g o cap : Nat) (t : TypeId) (fz : Nat × Nat) (hz : fz = (0, 0) ∨ cap ≤ fz.1) : ∀ (vs : List Value) (i : Nat) (cur : Array Value) (w : World), w.heap[g]? = some (.cells cur t fz) → cur.size = cap → o + i + vs.length ≤ cap → (∀ v ∈ vs, v.oneCell' = true) →
    ∃ cur', (storeCells ⟨g, o, none⟩ vs i).run Try.prog w = .ok () (w.setRow g cur') ∧ cur'.size = cap ∧ ∀ j, cur'[j]? = if o + i ≤ j ∧ j < o + i + vs.length then vs[j - (o + i)]? else cur[j]?
  | [], i, cur, w, hg, hs, _, _ => by
    refine ⟨cur, ?_, hs, fun j => ?_⟩
    · rw [setRow_self w g cur t fz hg]
      first | rfl | simp [storeCells]
    · rw [if_neg (by first | (simp; done) | (simp; omega))]
  | v :: rest, i, cur, w, hg, hs, hl, h1 => by
    have hi : o + i < cur.size := by simp at hl; omega
    have hadd : (⟨g, o, none⟩ : Addr).add i = ⟨g, o + i, none⟩ := by unfold Addr.add; split <;> simp_all
    have hcell : w.cell? ⟨g, o + i, none⟩ = some cur[o + i] := by simp [World.cell?, hg, hi]
    have hfro : w.frozen? ⟨g, o + i, none⟩ = false := frozen_of hg hz (by omega)
    have hst : (store ((⟨g, o, none⟩ : Addr).add i) v).run Try.prog w = .ok () (w.setRow g (cur.setIfInBounds (o + i) v)) := by
      rw [hadd, run_store Try.prog w _ v _ (h1 v (by simp)), hcell]
      simp [hfro, setCell_eq_setRow w g (o + i) cur t fz v hg]
    obtain ⟨cur', hr, hz2, hc⟩ := storeCells_at g o cap t fz hz rest (i + 1) (cur.setIfInBounds (o + i) v) (w.setRow g (cur.setIfInBounds (o + i) v)) (setRow_heap w g cur _ t fz hg) (by simpa using hs) (by simp at hl ⊢; omega) (fun x hx => h1 x (by simp [hx]))
    refine ⟨cur', ?_, hz2, fun j => ?_⟩
    · simp only [storeCells, Sem.run_bind, hst, Result.andThen_ok, hr, setRow_setRow]
    · rw [hc j, Array.getElem?_setIfInBounds]
      simp only [List.length_cons]
      by_cases e : o + i = j
      · subst e
        rw [if_neg (by omega), if_pos rfl, if_pos hi, if_pos (by omega), Nat.sub_self]
        rfl
      · rw [if_neg e]
        by_cases c : o + (i + 1) ≤ j ∧ j < o + (i + 1) + rest.length
        · rw [if_pos c, if_pos (by omega), show j - (o + i) = (j - (o + (i + 1))) + 1 by omega]
          rfl
        · rw [if_neg c, if_neg (by omega)]

theorem run_copy_str {W : World} {g off dLen dCap cap : Nat} {s : ByteArray} {cur : Array Value} {fz : Nat × Nat} (ty : TypeId) (hg : W.heap[g]? = some (.cells cur 5 fz)) (hz : fz = (0, 0) ∨ cap ≤ fz.1) (hs : cur.size = cap) (hle : s.size ≤ dLen) (hfit : off + s.size ≤ cap) :
    ∃ cur', (Builtin.copy_ #[51, 9] ty #[.slice (some ⟨g, off, none⟩) dLen dCap, .string s]).run Try.prog W = .ok (goInt s.size) (W.setRow g cur') ∧ cur'.size = cap ∧ ∀ j, cur'[j]? = if off ≤ j ∧ j < off + s.size then some (.int .u8 (byteD s (j - off) : Nat)) else cur[j]? := by
  obtain ⟨i, hi, hz0, hz1, hz2⟩ := info_parts infoY
  have hd : s.data.size = s.size := rfl
  have hx : s.extract 0 s.size = s := ByteArray.extract_zero_size
  have ht : List.take s.size (List.map (fun b : UInt8 => Value.int .u8 b.toNat) s.data.toList) = List.map (fun b : UInt8 => Value.int .u8 b.toNat) s.data.toList := List.take_of_length_le (by simp [hd])
  obtain ⟨cur', hr, hsz, hc⟩ := storeCells_at g off cap 5 fz hz (List.map (fun b : UInt8 => Value.int .u8 b.toNat) s.data.toList) 0 cur W hg hs (by simp [hd]; omega) (fun v hv => by simp at hv; obtain ⟨b, _, rfl⟩ := hv; rfl)
  refine ⟨cur', ?_, hsz, fun j => ?_⟩
  · simp [Builtin.copy_, run_underlying Try.underlying51, Builtin.lenOf, Builtin.firstCells, sizeOf, typeInfo, hi, hz1, Nat.min_eq_left hle, hx, ht, hr]
  · rw [hc j]
    simp only [Nat.add_zero, Array.length_toList, List.length_map, hd]
    by_cases c : off ≤ j ∧ j < off + s.size
    · rw [if_pos c, if_pos c]
      have hj : j - off < s.data.size := by rw [hd]; omega
      unfold byteD
      simp
      exact ⟨_, Array.getElem?_eq_getElem hj, by rw [Array.getElem?_eq_getElem hj]; rfl⟩
    · rw [if_neg c, if_neg c]

/-- A text copied into bytes of one's own. -/
theorem wpList_copy_str {W : World} {ops : Array Oper} {rest : List Oper} {o : Oper} {a : Act} {Q : Exit → Act → World → Prop} (hgd : o.guard = none) (d x : Operand)
    (ho : o.op = .call { callee := .builtin .copy, args := #[d, x], argTypes := #[51, 9] }) {base n g off cap dLen dCap : Nat} {f : Nat → Nat} {s : ByteArray} (hdv : a.eval d = .slice (some ⟨g, off, none⟩) dLen dCap) (hx : a.eval x = .string s)
    (hown : ownB W base (.slice (some ⟨g, 0, none⟩) n cap) n f) (hle : s.size ≤ dLen) (hfit : off + s.size ≤ n)
    (h : ∀ W', ownB W' base (.slice (some ⟨g, 0, none⟩) n cap) n (laidF f off s) → Below g W W' → wpList Try.prog ops Q rest (a.put o.dst (goInt s.size)) W') : wpList Try.prog ops Q (o :: rest) a W := by
  refine wpList_plain hgd fun K hK => ?_
  rcases hown with ⟨h0, _⟩ | ⟨g', cap', cur, fz, hv, hb, hg, hz, hnc, hm, hs, hc⟩
  · cases h0
  · cases hv
    obtain ⟨cur', hr, hs', hc'⟩ := run_copy_str (dCap := dCap) (dLen := dLen) (off := off) (s := s) o.type hg hz hs hle (by omega)
    unfold Oper.wp execOp
    simp only [ho, resolve, invoke, builtin, Sem.run_bind, Sem.run_pure, Result.andThen_ok, List.map_toArray, List.map_cons, List.map_nil, hdv, hx, hr]
    refine hK _ _ (h _ (.inr ⟨g, cap, cur', fz, rfl, hb, setRow_heap W g cur _ _ fz hg, hz, hnc, hm, hs', fun j hj => ?_⟩) ⟨rfl, rfl, rfl, by simp [World.setRow], fun k hk => setRow_other W g k cur' (by omega)⟩)
    rw [hc' j]
    unfold laidF
    by_cases c : off ≤ j ∧ j < off + s.size
    · rw [if_pos c, if_pos c]
    · rw [if_neg c, if_neg c, hc j hj]

/-- n bytes as a string. -/
theorem string_ofB {W : World} {g n cap : Nat} {f : Nat → Nat} (hc : ∀ j, j < n → W.cell? ⟨g, j, none⟩ = some (.int .u8 (f j : Nat))) : (convert 51 9 (.slice (some ⟨g, 0, none⟩) n cap)).run Try.prog W = .ok (.string (strN n f)) W := by
  rw [run_convert_bytes_string W 51 9 5 _ _ _ Try.underlying51 Try.underlying5 Try.underlying9]
  refine run_bytesToString W _ n cap ((List.range n).map fun k => ((f k : Nat) : Int)) ?_
  have hadd : ∀ q j : Nat, (⟨q, 0, none⟩ : Addr).add j = ⟨q, j, none⟩ := fun q j => by unfold Addr.add; split <;> simp_all
  have hl : (((List.range n).map fun k => ((f k : Nat) : Int)).map (Value.int .u8)).length = n := by simp
  have := run_loadCells_list (P := Try.prog) W ⟨g, 0, none⟩ (((List.range n).map fun k => ((f k : Nat) : Int)).map (Value.int .u8)) (fun j v hv => by
    have hj : j < n := by
      have := (List.getElem?_eq_some_iff.1 hv).1
      omega
    have h3 : (((List.range n).map fun k => ((f k : Nat) : Int)).map (Value.int .u8))[j]? = some (.int .u8 (f j : Nat)) := by simp [hj]
    rw [h3] at hv
    injection hv with hv
    subst hv
    rw [hadd]
    exact hc j hj)
  rw [hl] at this
  exact this

theorem slice_from {W : World} {g n cap off : Nat} (h0 : (off : Int) ≤ (n : Int)) (h1 : off < cap) : (Instr.slice 51 (.slice (some ⟨g, 0, none⟩) n cap) (some (.int .u64 (off : Nat))) none none).run Try.prog W = .ok (.slice (some ⟨g, off, none⟩) (n - off) (cap - off)) W := by
  have ht : Try.prog.underlying 51 = some (.slice (Try.prog.elem 51)) := by kernel_rfl
  have he : Try.prog.elem 51 = 5 := by kernel_rfl
  obtain ⟨i, hi, hz0, hz1, hz2⟩ := info_parts infoY
  have hadd : ∀ q j : Nat, (⟨q, 0, none⟩ : Addr).add j = ⟨q, j, none⟩ := fun q j => by unfold Addr.add; split <;> simp_all
  rw [run_slice_l W 51 _ n cap ht .u64 off (by omega) h0, he]
  simp [sizeOf, typeInfo, hi, hz1, Result.andThen, sliced, hadd]
  omega

set_option maxHeartbeats 4000000 in
/-- memo.put. -/
theorem put_any (m : ByteArray) (off : Nat) (s : ByteArray) (hm : m.size ≤ maxLen) (hs : 0 < s.size) (hfit : off + s.size ≤ m.size) (w : World) :
    Calls Try.prog 26 #[.string m, .int .u64 (off : Nat), .string s] w fun e w' => e = .returned (.string (putS m off s)) ∧ Below w.heap.size w w' := by
  have hmax : maxLen = 9223372036854775807 := rfl
  go_enter Try.func26, Try.ntmps26
  go_wp2_with (refine wpList_bytes rfl (.tmp 8) rfl rfl hm ?_; intro v0 w0 hown0 hb0)
  have hown1 := hown0
  obtain ⟨g, cap, rfl, hbg, hg, hcap, hcm, _, _, _⟩ := hown1.parts (by omega)
  clear hown1
  have i0 : (off : Int) ≤ (m.size : Int) := by omega
  have i1 : (off : Int) < (m.size : Int) := by omega
  have i4 : off < cap := by omega
  have sl : ∀ W, (Instr.slice 51 (.slice (some ⟨g, 0, none⟩) m.size cap) (some (.int .u64 (off : Nat))) none none).run Try.prog W = .ok (.slice (some ⟨g, off, none⟩) (m.size - off) (cap - off)) W := fun W => slice_from i0 i4
  have i2 : (m.size : Int) ≤ (cap : Int) := by omega
  have i3 : (off : Int) < (cap : Int) := by omega
  go_wp2
  rw [sl]
  go_wp2_with (refine wpList_copy_str rfl (.tmp 12) (.tmp 13) rfl rfl rfl hown0 ?_ hfit ?_)
  · omega
  intro w1 hown1 hb1
  obtain ⟨g', cap', hv, _, _, _, _, hrow, _, _⟩ := hown1.parts (by omega)
  cases hv
  have hcv := string_ofB (W := w1) (n := m.size) (cap := cap) (g := g) (f := laidF (byteD m) off s) fun j hj => hrow.cellAt hj
  rw [strN_laid hfit] at hcv
  have hbel : Below w.heap.size w w1 := hb0.trans (hb1.mono hbg)
  clear hrow hown1 hown0 hb0 hb1 sl
  go_wp2
  go_ret
  exact ⟨rfl, hbel⟩

set_option maxHeartbeats 4000000 in
/-- The document's put. -/
theorem ref_put (m : ByteArray) (off : Nat) (s : ByteArray) (hm : m.size ≤ maxLen) (hfit : off + s.size ≤ m.size) (w : World) :
    Calls Try.prog 30 #[.string m, .int .u64 (off : Nat), .string s] w fun e w' => e = .returned (.string (putS m off s)) ∧ Below w.heap.size w w' := by
  have hmax : maxLen = 9223372036854775807 := rfl
  have i0 : (off : Int) ≤ (m.size : Int) := by omega
  have i1 : (off : Int) + (s.size : Int) ≤ (m.size : Int) := by omega
  have i2 : ((off : Int) + (s.size : Int)).toNat = off + s.size := by omega
  have h1 : (m.extract 0 off).size = off := by rw [ByteArray.size_extract]; omega
  have h2 : (m.extract (off + s.size) m.size).size = m.size - (off + s.size) := by rw [ByteArray.size_extract]; omega
  unfold putS
  generalize hA : m.extract 0 off = A at *
  generalize hB : m.extract (off + s.size) m.size = B at *
  have c1 : ¬ 9223372036854775807 < A.size + s.size := by omega
  have c2 : ¬ 9223372036854775807 < A.size + s.size + B.size := by omega
  have c3 : ¬ 9223372036854775807 < (A ++ s).size + B.size := by rw [ByteArray.size_append]; omega
  clear h1 h2
  go_enter Try.func30, Try.ntmps30
  go_wp2
  first | refine wp_flow (fun k => ([1, 1, 1, 1, 1, 1, 1, 1, 1, 1, 1, 1, 1, 1] : List Nat).getD k 1) Dr _ (Dr.next _ _) (by kernel_rfl) (by kernel_rfl) ?_ | refine wp_flow (fun k => ([1, 1, 1, 1, 1, 1, 1, 1, 1, 1, 1, 1, 1, 1] : List Nat).getD k 1) Dr _ (Dr.one _) (by kernel_rfl) (by kernel_rfl) ?_
  (refine flow_quiet rfl rfl (fun K hK => ?_); apply Exists.intro; apply And.intro; (focus (rintro w' ⟨nn, rfl⟩; go_simp; (try go_bits); exact ⟨rfl, Dr.of _ _⟩)); go_simp; (try go_bits); refine hK _ ?_; clear hK K)
  (refine flow_quiet rfl rfl (fun K hK => ?_); apply Exists.intro; apply And.intro; (focus (rintro w' ⟨nn, rfl⟩; go_simp; (try go_bits); exact ⟨rfl, Dr.of _ _⟩)); go_simp; (try go_bits); refine hK _ ?_; clear hK K)
  (refine flow_quiet rfl rfl (fun K hK => ?_); apply Exists.intro; apply And.intro; (focus (rintro w' ⟨nn, rfl⟩; go_simp; (try go_bits); exact ⟨rfl, Dr.of _ _⟩)); go_simp; (try go_bits); refine hK _ ?_; clear hK K)
  (refine flow_quiet rfl rfl (fun K hK => ?_); apply Exists.intro; apply And.intro; (focus (rintro w' ⟨nn, rfl⟩; go_simp; (try go_bits); exact ⟨rfl, Dr.of _ _⟩)); go_simp; (try go_bits); refine hK _ ?_; clear hK K)
  (refine flow_quiet rfl rfl (fun K hK => ?_); apply Exists.intro; apply And.intro; (focus (rintro w' ⟨nn, rfl⟩; go_simp; (try go_bits); exact ⟨rfl, Dr.of _ _⟩)); go_simp; (try go_bits); refine hK _ ?_; clear hK K)
  (refine flow_quiet rfl rfl (fun K hK => ?_); apply Exists.intro; apply And.intro; (focus (rintro w' ⟨nn, rfl⟩; go_simp; (try go_bits); exact ⟨rfl, Dr.of _ _⟩)); go_simp; (try go_bits); refine hK _ ?_; clear hK K)
  (refine flow_quiet rfl rfl (fun K hK => ?_); apply Exists.intro; apply And.intro; (focus (rintro w' ⟨nn, rfl⟩; go_simp; (try go_bits); exact ⟨rfl, Dr.of _ _⟩)); go_simp; (try go_bits); refine hK _ ?_; clear hK K)
  (refine flow_quiet rfl rfl (fun K hK => ?_); apply Exists.intro; apply And.intro; (focus (rintro w' ⟨nn, rfl⟩; go_simp; (try go_bits); exact ⟨rfl, Dr.of _ _⟩)); go_simp; (try go_bits); refine hK _ ?_; clear hK K)
  (refine flow_quiet rfl rfl (fun K hK => ?_); apply Exists.intro; apply And.intro; (focus (rintro w' ⟨nn, rfl⟩; go_simp; (try go_bits); exact ⟨rfl, Dr.of _ _⟩)); go_simp; (try go_bits); refine hK _ ?_; clear hK K)
  (refine flow_quiet rfl rfl (fun K hK => ?_); apply Exists.intro; apply And.intro; (focus (rintro w' ⟨nn, rfl⟩; go_simp; (try go_bits); exact ⟨rfl, Dr.of _ _⟩)); go_simp; (try go_bits); refine hK _ ?_; clear hK K)
  (refine flow_quiet rfl rfl (fun K hK => ?_); apply Exists.intro; apply And.intro; (focus (rintro w' ⟨nn, rfl⟩; go_simp; (try go_bits); exact ⟨rfl, Dr.of _ _⟩)); go_simp; (try go_bits); refine hK _ ?_; clear hK K)
  (refine flow_quiet rfl rfl (fun K hK => ?_); apply Exists.intro; apply And.intro; (focus (rintro w' ⟨nn, rfl⟩; go_simp; (try go_bits); exact ⟨rfl, Dr.of _ _⟩)); go_simp; (try go_bits); refine hK _ ?_; clear hK K)
  (refine flow_quiet rfl rfl (fun K hK => ?_); apply Exists.intro; apply And.intro; (focus (rintro w' ⟨nn, rfl⟩; go_simp; (try go_bits); exact ⟨rfl, Dr.of _ _⟩)); go_simp; (try go_bits); refine hK _ ?_; clear hK K)
  (refine flow_quiet rfl rfl (fun K hK => ?_); apply Exists.intro; apply And.intro; (focus (rintro w' ⟨nn, rfl⟩; go_simp; (try go_bits); exact ⟨rfl, Dr.of _ _⟩)); go_simp; (try go_bits); refine hK _ ?_; clear hK K)
  refine flow_nil ?_
  rintro w' ⟨nq, rfl⟩
  go_wp2
  go_ret
  refine ⟨rfl, ?_⟩
  repeat (with_reducible first | exact Below.refl _ _ | assumption | refine below_drewN ?_ _ | refine Below.drew ?_ | refine Below.setCell ?_ (by first | omega | (simp; done) | (simp; omega)) _ | refine Below.alloc ?_ (by first | omega | (simp; done) | (simp; omega)) _ | refine Below.trans ?_ (Below.mono (by assumption) (by first | omega | (simp; done) | (simp; omega))))
end Go.Proofs.Ytbgeenkkdfbngaa
