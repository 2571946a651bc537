/-
  Texts of one proof, one behind the other. Conditions: each text's own line says them.
-/
import Derived.Shelf.Strings.Builder1
import Derived.Shelf.Strings.BuilderK
import Derived.Maps.AppendAt
import Derived.Test.YtijidnhaijdfaaaGreatDoorKShelf
import Derived.Lib.AppendStr
import Derived.Test.YtijidnhaijdfaaaGreatDoorPR7
import Derived.Test.YtijidnhaijdfaaaGreatDoorPR6

/- A strings.Builder of the call's own: the contracts of WriteByte, WriteString, String, with what stays as it was. Conditions: none. -/
namespace Go.Proofs.YtijidnhaijdfaaaGreatDoor
open Go.RowKit Go.Shelf
attribute [local go_sem] leftBy
set_option linter.unusedSimpArgs false
set_option linter.unusedVariables false

/-- Block b is a builder whose buffer is v, of the bytes xs; p: what it knows of its place. -/
def bldP (w : World) (b : Nat) (p v : Value) (xs : List Value) : Prop :=
  w.heap[b]? = some (.cells #[p, v] 94 (0, 0)) ∧ w.ownsRow b 5 1 v xs.length xs ∧ v.ownBlock ≠ some b
def bld (w : World) (b : Nat) (v : Value) (xs : List Value) : Prop := bldP w b (.pointer none) v xs ∨ bldP w b (.pointer (some ⟨b, 0, none⟩)) v xs

theorem bld.is {w : World} {b : Nat} {v : Value} {xs : List Value} (h : bld w b v xs) : Lib.IsBuilder 94 5 b b xs w := by
  rcases h with ⟨h1, h2, h3⟩ | ⟨h1, h2, h3⟩
  · exact .inl ⟨Nat.le_refl _, v, h1, h2, h3⟩
  · exact .inr ⟨Nat.le_refl _, v, h1, h2, h3⟩
theorem bldP.lt {w : World} {b : Nat} {p v : Value} {xs : List Value} (h : bldP w b p v xs) : b < w.heap.size := (Array.getElem?_eq_some_iff.1 h.1).1
theorem bldP.own_lt {w : World} {b : Nat} {p v : Value} {xs : List Value} (h : bldP w b p v xs) : ∀ k, v.ownBlock = some k → b < k ∧ k < w.heap.size := by
  intro k hk
  have h1 := h.2.1.lt k hk
  have h2 : k ≠ b := fun e => h.2.2 (by rw [hk, e])
  omega
theorem bldP.own_cells {w : World} {b : Nat} {p v : Value} {xs : List Value} (h : bldP w b p v xs) : ∀ k o, v.ownBlock = some k → w.heap[k]? = some o → o.isCells = true := by
  intro k o hk ho
  rcases h.2.1.2 with ⟨rfl, _⟩ | ⟨g, cap, cur, rfl, _, hg, _⟩
  · cases hk
  · obtain rfl : g = k := by simpa [Value.ownBlock] using hk
    rw [hg] at ho
    cases ho
    rfl

theorem bldP.below {w w' : World} {B b : Nat} {p v : Value} {xs : List Value} (h : bldP w b p v xs) (hb : Below B w w') (hB : w.heap.size ≤ B) : bldP w' b p v xs := by
  obtain ⟨h1, h2, h3⟩ := h
  have hl := (Array.getElem?_eq_some_iff.1 h1).1
  refine ⟨(hb.block b (by omega)).trans h1, ⟨h2.1, ?_⟩, h3⟩
  rcases h2.2 with h | ⟨g, cap, cur, hv, hb0, hg, hr⟩
  · exact .inl h
  · have hl := (Array.getElem?_eq_some_iff.1 hg).1
    exact .inr ⟨g, cap, cur, hv, hb0, (hb.block g (by omega)).trans hg, hr⟩
theorem bld.below {w w' : World} {B b : Nat} {v : Value} {xs : List Value} (h : bld w b v xs) (hb : Below B w w') (hB : w.heap.size ≤ B) : bld w' b v xs := h.imp (·.below hb hB) (·.below hb hB)
theorem cc_any {w : World} {b : Nat} {v : Value} {xs : List Value} (h : bld w b v xs) :
    Calls Tryz.prog 58 #[.pointer (some ⟨b, 0, none⟩)] w fun e w' => e = .returned (.tuple #[]) ∧ bldP w' b (.pointer (some ⟨b, 0, none⟩)) v xs ∧ w.grownBy w' (some b) := by
  rcases h with h | h
  · have hc : w.cell? ⟨b, 0, none⟩ = some (.pointer none) := by rw [Lib.cell_of_heap h.1]; rfl
    have hs : w.shape? b = some (94, 2) := by simp [World.shape?, h.1]
    have hf : w.frozen? ⟨b, 0, none⟩ = false := Lib.frozen_of_heap h.1 0
    refine (Any.Builder_copyCheck_fresh (ρ := lays156_ren) { lays156 with } Builder_Extra_156.toX72 b w hc hs hf).mono ?_
    rintro e w' ⟨rfl, rfl⟩
    have hg := grownBy_setCell' w b (.pointer (some ⟨b, 0, none⟩))
    refine ⟨rfl, ⟨?_, h.2.1.kept hg (.inr h.2.2), h.2.2⟩, hg⟩
    have := setCell_at h.1 0 (.pointer (some ⟨b, 0, none⟩))
    rw [this]
    rfl
  · have hc : w.cell? ⟨b, 0, none⟩ = some (.pointer (some ⟨b, 0, none⟩)) := by rw [Lib.cell_of_heap h.1]; rfl
    refine (Any.Builder_copyCheck_used (ρ := lays156_ren) { lays156 with } Builder_Extra_156.toX72 b w hc).mono ?_
    rintro e w' ⟨rfl, rfl⟩
    exact ⟨rfl, h, ⟨rfl, rfl, rfl, Nat.le_refl _, fun _ _ _ => rfl⟩⟩

theorem String_any {w : World} {b : Nat} {v : Value} {l : List UInt8} (h : bld w b v (Lib.byteCells l)) :
    Calls Tryz.prog 40 #[.pointer (some ⟨b, 0, none⟩)] w fun e w' => e = .returned (.string ⟨l.toArray⟩) ∧ Below b w w' :=
  Any.Builder_String_any (ρ := lays156_ren) { lays156 with } Builder_Extra_156 b b l w h.is (by rcases h with h | h <;> exact Nat.le_of_lt h.lt)

/-- What a write leaves: whatever was and is neither the builder nor its buffer is as it was; the buffer is the old one or new. -/
structure wrote (b : Nat) (v v' : Value) (w w' : World) : Prop where
  below : Below b w w'
  block : ∀ k, k < w.heap.size → k ≠ b → v.ownBlock ≠ some k → w'.heap[k]? = w.heap[k]?
  own : ∀ k, v'.ownBlock = some k → v.ownBlock = some k ∨ w.heap.size ≤ k

theorem grown_set (W : World) (a : Addr) (v : Value) : W.grownBy (W.setCell a v) (some a.block) :=
  ⟨rfl, rfl, rfl, (KeepsWalks.setCell W _ v).size, fun k _ hk => Below.heap_setCell _ _ _ k (fun e => hk (by rw [e]))⟩

theorem info8 : (Tryz.prog.info? 5).map (fun i => (i.zero, i.size, i.bytes)) = some (some (.int .u8 0), 1, 1) := by kernel_rfl

set_option maxRecDepth 100000 in
set_option maxHeartbeats 2000000 in
theorem WriteByte_any {w : World} {b : Nat} {v : Value} {xs : List Value} (h : bld w b v xs) (c : Int) (hl : xs.length ≤ 4000000) :
    Calls Tryz.prog 65 #[.pointer (some ⟨b, 0, none⟩), .int .u8 c] w fun e w' => e = .returned .nilIface ∧ ∃ v', bldP w' b (.pointer (some ⟨b, 0, none⟩)) v' (xs ++ [.int .u8 c]) ∧ wrote b v v' w w' := by
  obtain ⟨i0, hi, hz0, hz1, hz2⟩ := info_parts info8
  go_enter Tryz.func65, Tryz.ntmps65
  go_wp2_with (first | (go_at_call 58; refine (cc_any h).mono ?_; rintro e w1 ⟨rfl, h1, hg1⟩; obtain ⟨hb1, hown, hne⟩ := h1; have hc1 : w1.cell? ⟨b, 1, none⟩ = some v := (by rw [Lib.cell_of_heap hb1]; rfl); have hlt := (Array.getElem?_eq_some_iff.1 hb1).1) | (at_builtin; refine wpList_append_own_at _ rfl _ _ 60 rfl b 5 i0 (.int .u8 0) 1 1 Tryz.underlying60 hi hz0 hz1 hz2 rfl (by decide) v xs.length xs rfl (hown.alloc _) ⟨w1.heap.size, 0, none⟩ 1 1 [.int .u8 c] rfl rfl (cell_one_new _ _ _) (by simp [Value.oneCell']) (by unfold maxLen; omega) (by omega) (by simp; omega) ?_; intro v' w2 hown' hgrow _ hloc; obtain ⟨g, cap, rfl⟩ := ownsRow_succ hown'; have hb2 : w2.heap[b]? = some (.cells #[.pointer (some ⟨b, 0, none⟩), v] 94 (0, 0)) := (hgrow.block b (by simp; omega) (fun e => hne e.symm)).trans ((Below.heap_alloc w1 _ b hlt).trans hb1); have hd1 : w2.cell? ⟨b, 1, none⟩ = some v := (by rw [Lib.cell_of_heap hb2]; rfl); have hf1 : w2.frozen? ⟨b, 1, none⟩ = false := Lib.frozen_of_heap hb2 1))
  go_ret
  have hlt2 : b < w2.heap.size := (Array.getElem?_eq_some_iff.1 hb2).1
  have hgs := grown_set w2 ⟨b, 1, none⟩ (.slice (some ⟨g, 0, none⟩) (xs.length + 1) cap)
  have hloc2 : v.ownBlock = some g ∨ g = w1.heap.size + 1 := by
    rcases hloc with e | e
    · exact .inl e.symm
    · exact .inr (by simpa [Value.ownBlock] using e)
  have hgb : g ≠ b := by
    rcases hloc2 with e | e
    · rintro rfl
      exact hne e
    · omega
  have hs1 := hg1.size
  refine ⟨rfl, .slice (some ⟨g, 0, none⟩) (xs.length + 1) cap, ⟨?_, ?_, ?_⟩, ?_, ?_, ?_⟩
  · rw [setCell_at hb2 1 _]
    rfl
  · have := hown'.kept hgs (.inr (fun e => hgb (by simpa [Value.ownBlock] using e)))
    simpa using this
  · intro e
    exact hgb (by simpa [Value.ownBlock] using e)
  · have hlt0 : b < w.heap.size := by rcases h with h | h <;> exact h.lt
    refine ((((Below.refl b w).grown hg1 (Nat.le_of_lt hlt0) (fun k e => by cases e; exact Nat.le_refl _)).alloc (Nat.le_of_lt hlt) _).grown hgrow (by simp; omega) (fun k hk => (hown.lt k hk).1)).setCell (p := ⟨b, 1, none⟩) (Nat.le_refl _) _
  · intro k hk hkb hkv
    rw [hgs.block k (by have := hgrow.size; simp at this; omega) (fun e => hkb (by simpa using e)), hgrow.block k (by simp; omega) (fun e => hkv e.symm), Below.heap_alloc w1 _ k (by omega), hg1.block k hk (fun e => hkb (by simpa using e))]
  · intro k hk
    have hk : k = g := by simpa [Value.ownBlock] using hk.symm
    subst hk
    rcases hloc2 with e | e
    · exact .inl e
    · exact .inr (by omega)
theorem ownsRow_form {w : World} {b e n : Nat} {v : Value} {xs : List Value} (h : w.ownsRow b e 1 v n xs) : ∃ a c, v = .slice a n c ∧ (∀ g, v.ownBlock = some g → ∃ cur, w.heap[g]? = some (.cells cur e (0, 0))) := by
  rcases h.2 with ⟨rfl, rfl⟩ | ⟨g, cap, cur, rfl, _, hg, _⟩
  · exact ⟨none, 0, rfl, fun g h => by cases h⟩
  · exact ⟨_, cap, rfl, fun g' h => by
      obtain rfl : g = g' := by simpa [Value.ownBlock] using h
      exact ⟨cur, hg⟩⟩
theorem strCells_bs (s : Bs) : Lib.strCells (bsS s) = Lib.byteCells s := by
  rfl
set_option maxRecDepth 100000 in
set_option maxHeartbeats 2000000 in
theorem WriteString_any {w : World} {b : Nat} {v : Value} {xs : List Value} (h : bld w b v xs) (s : Bs) (hl : xs.length ≤ 4000000) (hs : s.length ≤ 4000000) :
    Calls Tryz.prog 39 #[.pointer (some ⟨b, 0, none⟩), .string (bsS s)] w fun e w' => e = .returned (.tuple #[.int .i64 (s.length : Nat), .nilIface]) ∧ (∃ v', bldP w' b (.pointer (some ⟨b, 0, none⟩)) v' (xs ++ Lib.byteCells s)) ∧ Below b w w' := by
  obtain ⟨i0, hi, hz0, hz1, hz2⟩ := info_parts info8
  have hsz := bsS_size s
  go_enter Tryz.func39, Tryz.ntmps39
  go_wp2_with (first | (go_at_call 58; refine (cc_any h).mono ?_; rintro e w1 ⟨rfl, h1, hg1⟩; obtain ⟨hb1, hown, hne⟩ := h1; have hc1 : w1.cell? ⟨b, 1, none⟩ = some v := (by rw [Lib.cell_of_heap hb1]; rfl); have hlt := (Array.getElem?_eq_some_iff.1 hb1).1) | (at_builtin; refine Lib.wpList_append_own_string _ rfl _ _ 60 9 rfl b 5 i0 Tryz.underlying60 Tryz.underlying9 hi hz0 hz1 hz2 v xs.length xs rfl hown (bsS s) rfl (by rw [hsz]; unfold maxLen; omega) (by rw [hsz]; omega) (Nat.le_of_lt hlt) ?_; intro v' w2 hown' hgrow _; rw [strCells_bs, hsz] at hown'; obtain ⟨a', c', rfl, hform⟩ := ownsRow_form hown'; have hb2 : w2.heap[b]? = some (.cells #[.pointer (some ⟨b, 0, none⟩), v] 94 (0, 0)) := (hgrow.block b hlt (fun e => hne e.symm)).trans hb1; have hd1 : w2.cell? ⟨b, 1, none⟩ = some v := (by rw [Lib.cell_of_heap hb2]; rfl); have hf1 : w2.frozen? ⟨b, 1, none⟩ = false := Lib.frozen_of_heap hb2 1))
  have hgs := grown_set w2 ⟨b, 1, none⟩ (.slice a' (xs.length + s.length) c')
  have hgb : (Value.slice a' (xs.length + s.length) c').ownBlock ≠ some b := by
    intro e
    obtain ⟨cur, hc⟩ := hform b e
    rw [hb2] at hc
    simp at hc
  have hs1 := hg1.size
  have hlen : (xs ++ Lib.byteCells s).length = xs.length + s.length := by simp [Lib.byteCells]
  refine bodyPost_ret (by simp only [results, Tryz.results39]; go_simp; try rfl) rfl ⟨rfl, ⟨.slice a' (xs.length + s.length) c', ⟨?_, ?_, hgb⟩⟩, ?_⟩
  · rw [setCell_at hb2 1 _]
    rfl
  · rw [hlen]
    exact hown'.kept hgs (.inr hgb)
  · have hlt0 : b < w.heap.size := by rcases h with h | h <;> exact h.lt
    refine (((Below.refl b w).grown hg1 (Nat.le_of_lt hlt0) (fun k e => by cases e; exact Nat.le_refl _)).grown hgrow (Nat.le_of_lt hlt) (fun k hk => (hown.lt k hk).1)).setCell (p := ⟨b, 1, none⟩) (Nat.le_refl _) _
end Go.Proofs.YtijidnhaijdfaaaGreatDoor

/- An item's bytes: put. Conditions: at most a million bytes. -/
namespace Go.Proofs.YtijidnhaijdfaaaGreatDoor
open Go.RowKit
attribute [local go_sem] leftBy leaves
set_option linter.unusedSimpArgs false
set_option linter.unusedVariables false

theorem enc_le_encs : ∀ {l : List It} {x : It}, x ∈ l → (enc x).length ≤ (encs l).length
  | y :: l, x, h => by
    rw [encs, List.length_append]
    rcases List.mem_cons.1 h with rfl | h
    · omega
    · have := enc_le_encs h
      omega
theorem framed_ge (f : Nat) (s : Bs) : s.length < (framed f s).length := by
  unfold framed
  split <;> simp <;> omega
theorem encs_lt (l : List It) : (encs l).length < (enc (.list l)).length := framed_ge 192 _
theorem encs_count : ∀ l : List It, l.length ≤ (encs l).length
  | [] => Nat.le_refl _
  | x :: l => by
    have := encs_count l
    have := enc_pos x
    rw [encs, List.length_append, List.length_cons]
    omega
theorem encs_take (l : List It) (i : Nat) : (encs (l.take i)).length ≤ (encs l).length := by
  have := encs_append (l.take i) (l.drop i)
  rw [List.take_append_drop] at this
  rw [this, List.length_append]
  omega
theorem dep_sub : ∀ {l : List It} {x : It}, x ∈ l → dep x ≤ deps l
  | y :: l, x, h => by
    rw [deps]
    rcases List.mem_cons.1 h with rfl | h
    · omega
    · have := dep_sub h
      omega
theorem byteCells_append (a b : Bs) : Lib.byteCells (a ++ b) = Lib.byteCells a ++ Lib.byteCells b := by simp [Lib.byteCells]
theorem byteCells_length (a : Bs) : (Lib.byteCells a).length = a.length := by simp [Lib.byteCells]
theorem encs_take_succ {l : List It} {i : Nat} {x : It} (h : l[i]? = some x) : encs (l.take (i + 1)) = encs (l.take i) ++ enc x := by
  have hi := (List.getElem?_eq_some_iff.1 h).1
  rw [List.take_succ_eq_append_getElem hi, (List.getElem?_eq_some_iff.1 h).2, encs_append, encs_one]

theorem shape_pay (x : It) : (pay x).length ≤ (enc x).length := by
  have h := shape x
  generalize enc x = s at *
  cases h with
  | byte => exact Nat.le_refl _
  | short => simp
  | long => simp; omega
def putP (x : It) : Prop := ∀ (v : Value) (W : World), itV W x v → Calls Tryz.prog 33 #[v] W fun e w' => e = .returned (.string (bsS (enc x))) ∧ Below W.heap.size W w'
set_option maxRecDepth 100000 in
set_option maxHeartbeats 8000000 in
theorem put_text (s : Bs) (hs : s.length ≤ 4000000) : putP (.text s) := by
  intro v W hv
  obtain rfl := hv
  have cF := fun w => framed_any s 128 (.inl rfl) hs w
  have hz := bsS_size s
  by_cases h1 : s.length = 1
  · obtain ⟨b, rfl⟩ : ∃ b, s = [b] := List.length_eq_one_iff.1 h1
    have hx := fun w => index_bs [b] 0 b rfl w
    have hl : enc (.text [b]) = if b < 128 then [b] else framed 128 [b] := rfl
    go_enter Tryz.func33, Tryz.ntmps33
    go_wp2_with (go_at_call 52; refine (cF _).mono ?_; rintro e w' ⟨rfl, hw⟩)
    · rename_i h
      have hb : b < 128 := by
        have : (((bsS [b])[0]'(by simp [bsS, ByteArray.size])).toNat : Int) < 128 := h
        have : (b.toNat : Int) < 128 := this
        rw [UInt8.lt_iff_toNat_lt]
        simp
        omega
      rw [hl, if_pos hb]
      refine bodyPost_ret (by simp only [results, Tryz.results33]; go_simp; try rfl) rfl ⟨rfl, (Below.refl _ W).alloc (Nat.le_refl _) _⟩
    · rename_i h
      have hb : ¬ b < 128 := by
        have : (128 : Int) ≤ (((bsS [b])[0]'(by simp [bsS, ByteArray.size])).toNat : Int) := h
        have : (128 : Int) ≤ (b.toNat : Int) := this
        rw [UInt8.lt_iff_toNat_lt]
        simp
        omega
      rw [hl, if_neg hb]
      refine bodyPost_ret (by simp only [results, Tryz.results33]; go_simp; try rfl) rfl ⟨rfl, ((Below.refl _ W).alloc (Nat.le_refl _) _).trans (hw.mono (by simp))⟩
  · have hl : enc (.text s) = framed 128 s := by
      match s with
      | [] => rfl
      | [b] => exact absurd rfl h1
      | a :: b :: t => rfl
    have h1i : ¬ (s.length : Int) = 1 := by omega
    rw [hl]
    go_enter Tryz.func33, Tryz.ntmps33
    go_wp2_with (go_at_call 52; refine (cF _).mono ?_; rintro e w' ⟨rfl, hw⟩)
    refine bodyPost_ret (by simp only [results, Tryz.results33]; go_simp; try rfl) rfl ⟨rfl, ((Below.refl _ W).alloc (Nat.le_refl _) _).trans (hw.mono (by simp))⟩
set_option maxRecDepth 100000 in
set_option maxHeartbeats 8000000 in
theorem put_list (l : List It) (hs : (encs l).length ≤ 4000000) (ih : ∀ x ∈ l, putP x) : putP (.list l) := by
  intro v W hv
  obtain ⟨a, c, rfl, hc, hl⟩ := hv
  have cF := fun w => framed_any (encs l) 192 (.inr rfl) hs w
  have hcn := encs_count l
  have b1 : Below W.heap.size W (W.alloc (.cells #[.bool true, .string ⟨#[]⟩, .slice a l.length c] 51)) := (Below.refl _ W).alloc (Nat.le_refl _) _
  have b2 : Below W.heap.size W ((W.alloc (.cells #[.bool true, .string ⟨#[]⟩, .slice a l.length c] 51)).alloc (.cells #[.pointer none, .slice none 0 0] 94)) := b1.alloc (by simp) _
  have h0 : bld ((W.alloc (.cells #[.bool true, .string ⟨#[]⟩, .slice a l.length c] 51)).alloc (.cells #[.pointer none, .slice none 0 0] 94)) (W.heap.size + 1) (.slice none 0 0) [] := by
    refine .inl ⟨?_, ⟨rfl, .inl ⟨rfl, rfl⟩⟩, fun h => by cases h⟩
    have := World.alloc_heap_new (W.alloc (.cells #[.bool true, .string ⟨#[]⟩, .slice a l.length c] 51)) (.cells #[.pointer none, .slice none 0 0] 94)
    rwa [World.size_alloc] at this
  go_enter Tryz.func33, Tryz.ntmps33
  go_wp2
  generalize ((W.alloc (.cells #[.bool true, .string ⟨#[]⟩, .slice a l.length c] 51)).alloc (.cells #[.pointer none, .slice none 0 0] 94)) = W2 at *
  go_loopw [11] (fun v wr => ∃ i : Nat, i ≤ l.length ∧ v = .int .i64 (i : Nat) ∧ (∃ bv, bld wr (W.heap.size + 1) bv (Lib.byteCells (encs (l.take i)))) ∧ Below W.heap.size W wr) (fun v _ => l.length - (intOf v).toNat)
  case atStart => exact ⟨0, Nat.zero_le _, rfl, ⟨_, h0⟩, b2⟩
  case round =>
    obtain ⟨i, hi, rfl, ⟨bv, hb⟩, hbel⟩ := hrel
    by_cases hil : i < l.length
    · obtain ⟨x, hx⟩ : ∃ x, l[i]? = some x := ⟨_, List.getElem?_eq_getElem hil⟩
      obtain ⟨bl, o, p, c', rfl, c0, c1, c2, hv⟩ := (itsV.below hbel hl).get hx
      rw [Nat.zero_add] at c0 c1 c2
      have hili : (i : Int) < (l.length : Int) := by omega
      have hxm : x ∈ l := List.mem_of_getElem? hx
      have hlx := enc_le_encs hxm
      have hlt := encs_take l i
      have hsz := byteCells_length (encs (l.take i))
      go_wp2_with (first | (go_at_call 33; refine (ih x hxm _ _ (hv.below ((Below.refl _ wr).alloc (Nat.le_refl _) _))).mono ?_; rintro e w3 ⟨rfl, hb3⟩; have hk3 : Below wr.heap.size wr w3 := ((Below.refl _ wr).alloc (Nat.le_refl _) _).trans (hb3.mono (by simp))) | (go_at_call 39; refine (WriteString_any (hb.below hk3 (Nat.le_refl _)) (enc x) (by omega) (by omega)).mono ?_; rintro e w4 ⟨rfl, ⟨bv4, hb4⟩, hk4⟩))
      refine ⟨⟨i + 1, by omega, by go_num, ⟨bv4, .inr ?_⟩, ?_⟩, by simp [intOf]; omega⟩
      · rw [encs_take_succ hx, byteCells_append]
        exact hb4
      · exact (hbel.trans (hk3.mono hbel.size)).trans (hk4.mono (by omega))
    · obtain rfl : i = l.length := by omega
      rw [List.take_length] at hb
      go_wp2_with (first | (go_at_call 40; refine (String_any hb).mono ?_; rintro e w3 ⟨rfl, hk3⟩) | (go_at_call 52; refine (cF _).mono ?_; rintro e w4 ⟨rfl, hk4⟩))
      refine bodyPost_ret (by simp only [results, Tryz.results33]; go_simp; try rfl) rfl ⟨rfl, (hbel.trans (hk3.mono (by omega))).trans (hk4.mono (by have := hbel.size; have := hk3.size; omega))⟩
theorem put_all : ∀ (n : Nat) (x : It), dep x ≤ n → (enc x).length ≤ 4000000 → putP x := by
  intro n
  induction n with
  | zero =>
    intro x hd hl
    cases x with
    | text s => exact put_text s (by have := shape_pay (.text s); simp only [pay] at this; omega)
    | list l => rw [dep] at hd; omega
  | succ n ih =>
    intro x hd hl
    cases x with
    | text s => exact put_text s (by have := shape_pay (.text s); simp only [pay] at this; omega)
    | list l =>
      have hlt := encs_lt l
      rw [dep] at hd
      exact put_list l (by omega) fun y hy => ih y (by have := dep_sub hy; omega) (by have := enc_le_encs hy; omega)
theorem put_any (x : It) (hx : (enc x).length ≤ 4000000) (v : Value) (W : World) (hv : itV W x v) : Calls Tryz.prog 33 #[v] W fun e w' => e = .returned (.string (bsS (enc x))) ∧ Below W.heap.size W w' :=
  put_all (dep x) x (Nat.le_refl _) hx v W hv
end Go.Proofs.YtijidnhaijdfaaaGreatDoor

/- Encode of a thing: deep, wrong, and what they call. Conditions: the thing is less deep than 12, its bytes are at most 65536. -/
namespace Go.Proofs.YtijidnhaijdfaaaGreatDoor
open Go.RowKit
attribute [local go_sem] leftBy leaves
set_option linter.unusedSimpArgs false
set_option linter.unusedVariables false

theorem cell3 {w : World} {k : Nat} {b t s : Value} {τ : TypeId} {fz : Nat × Nat} (h : w.heap[k]? = some (.cells #[b, t, s] τ fz)) : w.cell? ⟨k, 0, none⟩ = some b ∧ w.cell? ⟨k, 1, none⟩ = some t ∧ w.cell? ⟨k, 2, none⟩ = some s := by
  refine ⟨?_, ?_, ?_⟩ <;> rw [Lib.cell_of_heap h] <;> rfl
section
variable {T : Value → Prop}
set_option maxRecDepth 100000 in
set_option maxHeartbeats 8000000 in
theorem index_deep (q : Option Addr) (l : List It) (a : Option Addr) (c : Nat) (W : World) (hn : l.length ≤ 4000000) (hl : itsV W a 0 l) (hcb : ∀ x ∈ l, ∀ v W', Below W.heap.size W W' → itV W' x v → Calls Tryz.prog 51 #[v, .pointer q] W' fun e w' => e = .returned (.bool false) ∧ Below W'.heap.size W' w') :
    Calls Tryz.prog 71 #[.slice a l.length c, .func (.func 51) #[] #[.pointer q]] W fun e w' => e = .returned (.int .i64 (-1)) ∧ Below W.heap.size W w' := by
  go_enter Tryz.func71, Tryz.ntmps71
  go_wp2
  obtain ⟨wo, hwo⟩ : ∃ wo : World, wo = W := ⟨_, rfl⟩
  go_loopw [8] (fun v wr => ∃ i : Nat, i ≤ l.length ∧ v = .int .i64 (i : Nat) ∧ Below wo.heap.size wo wr) (fun v _ => l.length - (intOf v).toNat)
  case atStart => exact ⟨0, Nat.zero_le _, rfl, by rw [hwo]; exact Below.refl _ _⟩
  case round =>
    subst hwo
    obtain ⟨i, hi, rfl, hbel⟩ := hrel
    by_cases hil : i < l.length
    · obtain ⟨x, hx⟩ : ∃ x, l[i]? = some x := ⟨_, List.getElem?_eq_getElem hil⟩
      obtain ⟨bl, o, p, c', rfl, c0, c1, c2, hv⟩ := (itsV.below hbel hl).get hx
      rw [Nat.zero_add] at c0 c1 c2
      have hili : (i : Int) < (l.length : Int) := by omega
      have hxm : x ∈ l := List.mem_of_getElem? hx
      go_wp2_with (go_at_call 51; refine (hcb x hxm _ _ hbel hv).mono ?_; rintro e w3 ⟨rfl, hb3⟩)
      exact ⟨⟨i + 1, by omega, by go_num, hbel.trans (hb3.mono hbel.size)⟩, by simp [intOf]; omega⟩
    · obtain rfl : i = l.length := by omega
      go_wp2
      refine bodyPost_ret (by simp only [results, Tryz.results71]; go_simp; try rfl) rfl ⟨rfl, hbel⟩
set_option maxRecDepth 100000 in
set_option maxHeartbeats 8000000 in
theorem contains_deep (q : Option Addr) (l : List It) (a : Option Addr) (c : Nat) (W : World) (hn : l.length ≤ 4000000) (hl : itsV W a 0 l) (hcb : ∀ x ∈ l, ∀ v W', Below W.heap.size W W' → itV W' x v → Calls Tryz.prog 51 #[v, .pointer q] W' fun e w' => e = .returned (.bool false) ∧ Below W'.heap.size W' w') :
    Calls Tryz.prog 50 #[.slice a l.length c, .func (.func 51) #[] #[.pointer q]] W fun e w' => e = .returned (.bool false) ∧ Below W.heap.size W w' := by
  have cI := index_deep q l a c W hn hl hcb
  go_enter Tryz.func50, Tryz.ntmps50
  go_wp2_with (go_at_call 71; refine cI.mono ?_; rintro e w3 ⟨rfl, hb3⟩)
  refine bodyPost_ret (by simp only [results, Tryz.results50]; go_simp; try rfl) rfl ⟨rfl, hb3⟩
end
section
variable {T : Value → Prop}
set_option maxRecDepth 100000 in
set_option maxHeartbeats 8000000 in
theorem index_wrong (q : Option Addr) (l : List It) (a : Option Addr) (c : Nat) (W : World) (hn : l.length ≤ 4000000) (hl : itsV W a 0 l) (hcb : ∀ x ∈ l, ∀ v W', Below W.heap.size W W' → itV W' x v → Calls Tryz.prog 32 #[v] W' fun e w' => e = .returned (.bool false) ∧ Below W'.heap.size W' w') :
    Calls Tryz.prog 71 #[.slice a l.length c, .func (.func 32) #[] #[]] W fun e w' => e = .returned (.int .i64 (-1)) ∧ Below W.heap.size W w' := by
  go_enter Tryz.func71, Tryz.ntmps71
  go_wp2
  obtain ⟨wo, hwo⟩ : ∃ wo : World, wo = W := ⟨_, rfl⟩
  go_loopw [8] (fun v wr => ∃ i : Nat, i ≤ l.length ∧ v = .int .i64 (i : Nat) ∧ Below wo.heap.size wo wr) (fun v _ => l.length - (intOf v).toNat)
  case atStart => exact ⟨0, Nat.zero_le _, rfl, by rw [hwo]; exact Below.refl _ _⟩
  case round =>
    subst hwo
    obtain ⟨i, hi, rfl, hbel⟩ := hrel
    by_cases hil : i < l.length
    · obtain ⟨x, hx⟩ : ∃ x, l[i]? = some x := ⟨_, List.getElem?_eq_getElem hil⟩
      obtain ⟨bl, o, p, c', rfl, c0, c1, c2, hv⟩ := (itsV.below hbel hl).get hx
      rw [Nat.zero_add] at c0 c1 c2
      have hili : (i : Int) < (l.length : Int) := by omega
      have hxm : x ∈ l := List.mem_of_getElem? hx
      go_wp2_with (go_at_call 32; refine (hcb x hxm _ _ hbel hv).mono ?_; rintro e w3 ⟨rfl, hb3⟩)
      exact ⟨⟨i + 1, by omega, by go_num, hbel.trans (hb3.mono hbel.size)⟩, by simp [intOf]; omega⟩
    · obtain rfl : i = l.length := by omega
      go_wp2
      refine bodyPost_ret (by simp only [results, Tryz.results71]; go_simp; try rfl) rfl ⟨rfl, hbel⟩
set_option maxRecDepth 100000 in
set_option maxHeartbeats 8000000 in
theorem contains_wrong (q : Option Addr) (l : List It) (a : Option Addr) (c : Nat) (W : World) (hn : l.length ≤ 4000000) (hl : itsV W a 0 l) (hcb : ∀ x ∈ l, ∀ v W', Below W.heap.size W W' → itV W' x v → Calls Tryz.prog 32 #[v] W' fun e w' => e = .returned (.bool false) ∧ Below W'.heap.size W' w') :
    Calls Tryz.prog 50 #[.slice a l.length c, .func (.func 32) #[] #[]] W fun e w' => e = .returned (.bool false) ∧ Below W.heap.size W w' := by
  have cI := index_wrong q l a c W hn hl hcb
  go_enter Tryz.func50, Tryz.ntmps50
  go_wp2_with (go_at_call 71; refine cI.mono ?_; rintro e w3 ⟨rfl, hb3⟩)
  refine bodyPost_ret (by simp only [results, Tryz.results50]; go_simp; try rfl) rfl ⟨rfl, hb3⟩
end
set_option maxRecDepth 100000 in
set_option maxHeartbeats 8000000 in
theorem deep_sub (k : Nat) (hk : k ≤ 1000) (q : Nat) (x : It) (v : Value) (W : World) (hv : itV W x v) (hq : W.cell? ⟨q, 0, none⟩ = some (.int .i64 ((k + 1 : Nat) : Int)))
    (ih : ∀ v W, itV W x v → Calls Tryz.prog 31 #[v, .int .i64 (k : Nat)] W fun e w' => e = .returned (.bool false) ∧ Below W.heap.size W w') :
    Calls Tryz.prog 51 #[v, .pointer (some ⟨q, 0, none⟩)] W fun e w' => e = .returned (.bool false) ∧ Below W.heap.size W w' := by
  have e1 : ((k + 1 : Nat) : Int) = (k : Int) + 1 := by push_cast; rfl
  rw [e1] at hq
  have hk1 : (k : Int) + 1 - 1 = (k : Int) := by omega
  obtain ⟨a, c, rfl, hc, hl⟩ := hv.form
  have hq2 := (((Below.refl W.heap.size W).alloc (Nat.le_refl _) (.cells #[.bool (isL x), .string (bsS (txt x)), .slice a (subs x).length c] 51)).cell (lt_of_cell hq)).trans hq
  go_enter Tryz.func51, Tryz.ntmps51
  go_wp2_with (first | (go_at_call 31; refine (ih _ _ (hv.below ((Below.refl _ W).alloc (Nat.le_refl _) _))).mono ?_; rintro e w3 ⟨rfl, hb3⟩))
  refine bodyPost_ret (by simp only [results, Tryz.results51]; go_simp; try rfl) rfl ⟨rfl, ((Below.refl _ W).alloc (Nat.le_refl _) _).trans (hb3.mono (by simp))⟩
theorem dep_subs (x : It) : ∀ y ∈ subs x, dep y + 1 ≤ dep x := by
  intro y hy
  cases x with
  | text s => cases hy
  | list l =>
    have := Go.Proofs.YtijidnhaijdfaaaGreatDoor.dep_sub (l := l) hy
    rw [dep]
    omega
theorem subs_enc (x : It) : ∀ y ∈ subs x, (enc y).length ≤ (enc x).length := by
  intro y hy
  cases x with
  | text s => cases hy
  | list l =>
    have := enc_le_encs (l := l) hy
    have := encs_lt l
    omega
theorem subs_count (x : It) : (subs x).length ≤ (enc x).length := by
  cases x with
  | text s => exact Nat.zero_le _
  | list l =>
    have := encs_count l
    have := encs_lt l
    show l.length ≤ _
    omega
set_option maxRecDepth 100000 in
set_option maxHeartbeats 8000000 in
theorem deep_all : ∀ (k : Nat) (x : It), dep x < k → k ≤ 1000 → (enc x).length ≤ 4000000 → ∀ (v : Value) (W : World), itV W x v → Calls Tryz.prog 31 #[v, .int .i64 (k : Nat)] W fun e w' => e = .returned (.bool false) ∧ Below W.heap.size W w' := by
  intro k
  induction k with
  | zero => intro x hx; omega
  | succ k ih =>
    intro x hx hk hlen v W hv
    obtain ⟨a, c, rfl, hc, hl⟩ := hv.form
    have hcnt := subs_count x
    have b1 : Below W.heap.size W (W.alloc (.cells #[.bool (isL x), .string (bsS (txt x)), .slice a (subs x).length c] 51)) := (Below.refl _ W).alloc (Nat.le_refl _) _
    have b2 : Below W.heap.size W ((W.alloc (.cells #[.bool (isL x), .string (bsS (txt x)), .slice a (subs x).length c] 51)).alloc (.cells #[.int .i64 ((k + 1 : Nat) : Int)] 3)) := b1.alloc (by simp) _
    have hh := World.alloc_heap_new (W.alloc (.cells #[.bool (isL x), .string (bsS (txt x)), .slice a (subs x).length c] 51)) (.cells #[.int .i64 ((k + 1 : Nat) : Int)] 3)
    rw [World.size_alloc] at hh
    have hq : ((W.alloc (.cells #[.bool (isL x), .string (bsS (txt x)), .slice a (subs x).length c] 51)).alloc (.cells #[.int .i64 ((k + 1 : Nat) : Int)] 3)).cell? ⟨W.heap.size + 1, 0, none⟩ = some (.int .i64 ((k + 1 : Nat) : Int)) := by
      rw [Lib.cell_of_heap hh]
      rfl
    have cC := contains_deep (some ⟨W.heap.size + 1, 0, none⟩) (subs x) a c _ (by omega) (itsV.below b2 hl) (fun y hy v' W' hb hv' => deep_sub k (by omega) (W.heap.size + 1) y v' W' hv' ((hb.cell (by simp)).trans hq)
      (fun v'' W'' hv'' => ih y (by have := dep_subs x y hy; omega) (by omega) (by have := subs_enc x y hy; omega) v'' W'' hv''))
    have hkk : ¬ ((k + 1 : Nat) : Int) < 1 := by omega
    go_enter Tryz.func31, Tryz.ntmps31
    go_wp2_with (go_at_call 50; refine cC.mono ?_; rintro e w3 ⟨rfl, hb3⟩)
    refine bodyPost_ret (by simp only [results, Tryz.results31]; go_simp; try rfl) rfl ⟨?_, b2.trans (hb3.mono b2.size)⟩
    rw [decide_eq_false (by omega)]
set_option maxRecDepth 100000 in
set_option maxHeartbeats 8000000 in
theorem wrong_all : ∀ (k : Nat) (x : It), dep x < k → (enc x).length ≤ 4000000 → ∀ (v : Value) (W : World), itV W x v → Calls Tryz.prog 32 #[v] W fun e w' => e = .returned (.bool false) ∧ Below W.heap.size W w' := by
  intro k
  induction k with
  | zero => intro x hx; omega
  | succ k ih =>
    intro x hx hlen v W hv
    cases x with
    | text s =>
      obtain rfl := hv
      go_enter Tryz.func32, Tryz.ntmps32
      go_wp2
      refine bodyPost_ret (by simp only [results, Tryz.results32]; go_simp; try rfl) rfl ⟨rfl, (Below.refl _ W).alloc (Nat.le_refl _) _⟩
    | list l =>
      obtain ⟨a, c, rfl, hc, hl⟩ := hv
      have hcnt := subs_count (.list l)
      have b1 : Below W.heap.size W (W.alloc (.cells #[.bool true, .string ⟨#[]⟩, .slice a l.length c] 51)) := (Below.refl _ W).alloc (Nat.le_refl _) _
      have cC := contains_wrong none l a c _ (Nat.le_trans hcnt hlen) (itsV.below b1 hl) (fun y hy v' W' hb hv' => ih y (by have := dep_subs (.list l) y hy; omega) (by have := subs_enc (.list l) y hy; omega) v' W' hv')
      go_enter Tryz.func32, Tryz.ntmps32
      go_wp2_with (go_at_call 50; refine cC.mono ?_; rintro e w3 ⟨rfl, hb3⟩)
      refine bodyPost_ret (by simp only [results, Tryz.results32]; go_simp; try rfl) rfl ⟨rfl, b1.trans (hb3.mono b1.size)⟩
set_option maxRecDepth 100000 in
set_option maxHeartbeats 8000000 in
theorem Encode_any (x : It) (hd : dep x < 12) (hlen : (enc x).length ≤ 65536) (v : Value) (W : World) (hv : itV W x v) : Calls Tryz.prog 12 #[v] W fun e w' => e = .returned (.tuple #[.string (bsS (enc x)), .int .i64 0]) ∧ Below W.heap.size W w' := by
  have hz := bsS_size (enc x)
  have cD := fun v W hv => deep_all 12 x hd (by omega) (by omega) v W hv
  have cW := fun v W hv => wrong_all 12 x hd (by omega) v W hv
  have cP := fun v W hv => put_any x (by omega) v W hv
  obtain ⟨a, c, rfl, hc, hl⟩ := hv.form
  have b1 : Below W.heap.size W (W.alloc (.cells #[.bool (isL x), .string (bsS (txt x)), .slice a (subs x).length c] 51)) := (Below.refl _ W).alloc (Nat.le_refl _) _
  have hh := World.alloc_heap_new W (.cells #[.bool (isL x), .string (bsS (txt x)), .slice a (subs x).length c] 51)
  have hs1 : (W.alloc (.cells #[.bool (isL x), .string (bsS (txt x)), .slice a (subs x).length c] 51)).heap.size = W.heap.size + 1 := World.size_alloc _ _
  have hv1 := hv.below b1
  go_enter Tryz.func12, Tryz.ntmps12
  go_wp2_with (first | (go_at_call 31; refine (cD _ _ hv1).mono ?_; rintro e w3 ⟨rfl, hb3⟩; have hh3 := (hb3.block W.heap.size (by omega)).trans hh; obtain ⟨i0, i1, i2⟩ := cell3 hh3) | (go_at_call 32; refine (cW _ _ (hv1.below hb3)).mono ?_; rintro e w4 ⟨rfl, hb4⟩; have hh4 := (hb4.block W.heap.size (by have := hb3.size; omega)).trans hh3; obtain ⟨j0, j1, j2⟩ := cell3 hh4) | (go_at_call 33; refine (cP _ _ ((hv1.below hb3).below hb4)).mono ?_; rintro e w5 ⟨rfl, hb5⟩))
  refine bodyPost_ret (by simp only [results, Tryz.results12]; go_simp; try rfl) rfl ⟨rfl, ((b1.trans (hb3.mono b1.size)).trans (hb4.mono ?_)).trans (hb5.mono ?_)⟩
  · have := hb3.size
    omega
  · have := hb3.size
    have := hb4.size
    omega
set_option maxRecDepth 100000 in
set_option maxHeartbeats 8000000 in
theorem Encode_long (x : It) (hd : dep x < 12) (hlo : 65536 < (enc x).length) (hlen : (enc x).length ≤ 4000000) (v : Value) (W : World) (hv : itV W x v) : Calls Tryz.prog 12 #[v] W fun e w' => e = .returned (.tuple #[.string ⟨#[]⟩, .int .i64 42]) ∧ Below W.heap.size W w' := by
  have hz := bsS_size (enc x)
  have cD := fun v W hv => deep_all 12 x hd (by omega) (by omega) v W hv
  have cW := fun v W hv => wrong_all 12 x hd (by omega) v W hv
  have cP := fun v W hv => put_any x (by omega) v W hv
  have hli : ¬ ((enc x).length : Int) ≤ 65536 := by omega
  obtain ⟨a, c, rfl, hc, hl⟩ := hv.form
  have b1 : Below W.heap.size W (W.alloc (.cells #[.bool (isL x), .string (bsS (txt x)), .slice a (subs x).length c] 51)) := (Below.refl _ W).alloc (Nat.le_refl _) _
  have hh := World.alloc_heap_new W (.cells #[.bool (isL x), .string (bsS (txt x)), .slice a (subs x).length c] 51)
  have hs1 : (W.alloc (.cells #[.bool (isL x), .string (bsS (txt x)), .slice a (subs x).length c] 51)).heap.size = W.heap.size + 1 := World.size_alloc _ _
  have hv1 := hv.below b1
  go_enter Tryz.func12, Tryz.ntmps12
  go_wp2_with (first | (go_at_call 31; refine (cD _ _ hv1).mono ?_; rintro e w3 ⟨rfl, hb3⟩; have hh3 := (hb3.block W.heap.size (by omega)).trans hh; obtain ⟨i0, i1, i2⟩ := cell3 hh3) | (go_at_call 32; refine (cW _ _ (hv1.below hb3)).mono ?_; rintro e w4 ⟨rfl, hb4⟩; have hh4 := (hb4.block W.heap.size (by have := hb3.size; omega)).trans hh3; obtain ⟨j0, j1, j2⟩ := cell3 hh4) | (go_at_call 33; refine (cP _ _ ((hv1.below hb3).below hb4)).mono ?_; rintro e w5 ⟨rfl, hb5⟩))
  refine bodyPost_ret (by simp only [results, Tryz.results12]; go_simp; try rfl) rfl ⟨rfl, ((b1.trans (hb3.mono b1.size)).trans (hb4.mono ?_)).trans (hb5.mono ?_)⟩
  · have := hb3.size
    omega
  · have := hb3.size
    have := hb4.size
    omega
end Go.Proofs.YtijidnhaijdfaaaGreatDoor
