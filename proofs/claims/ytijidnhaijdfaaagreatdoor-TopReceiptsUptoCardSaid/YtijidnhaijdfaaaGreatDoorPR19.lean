/-
  The contract of slices.SortFunc at leaves, laid by the kit's tool out of the compiled shelf; the order of leaves. Conditions: none.
-/
import Derived.Shelf.SlSortCmp.WholeK
import Derived.Laws.Cover1
import Derived.Laws.Runes
import Derived.Test.YtijidnhaijdfaaaGreatDoorPR13
import Derived.Test.YtijidnhaijdfaaaGreatDoorPR18
import Derived.Test.YtijidnhaijdfaaaGreatDoorPR14
import Derived.Test.YtijidnhaijdfaaaGreatDoorPR7
namespace Go.Proofs.YtijidnhaijdfaaaGreatDoor
open Go.RowKit Go.Shelf
attribute [local go_sem] leftBy leaves
set_option linter.unusedSimpArgs false
set_option linter.unusedVariables false

def sortLf_ren : Go.Shelf.Ren := ⟨fun | 6 => 60 | 15 => 78 | 14 => 77 | 28 => 101 | 29 => 102 | 20 => 93 | 21 => 94 | 22 => 95 | 23 => 96 | 24 => 97 | 25 => 98 | 26 => 99 | 27 => 100 | 46 => 110 | 47 => 111 | 48 => 112 | 49 => 113 | 50 => 114 | 57 => 119 | n => n, fun | 22 => 134 | 24 => 136 | 25 => 139 | 3 => 3 | 39 => 123 | 0 => 0 | 53 => 182 | 55 => 29 | 4 => 4 | 46 => 175 | 45 => 174 | 50 => 179 | 5 => 5 | 9 => 9 | 66 => 192 | 70 => 196 | 76 => 198 | 77 => 199 | n => n, fun | n => n⟩
theorem sortLf : Go.Proofs.SlLaysF0.n6 Tryz.prog sortLf_ren := {
  mixed := by kernel_rfl
  f6 := ⟨Tryz.f60.name, by decide, Tryz.func60.trans (congrArg some (by kernel_rfl))⟩
  f14 := ⟨Tryz.f77.name, by decide, Tryz.func77.trans (congrArg some (by kernel_rfl))⟩
  f15 := Tryz.func78.trans (congrArg some (by kernel_rfl))
  f20 := ⟨Tryz.f93.name, by decide, Tryz.func93.trans (congrArg some (by kernel_rfl))⟩
  f21 := ⟨Tryz.f94.name, by decide, Tryz.func94.trans (congrArg some (by kernel_rfl))⟩
  f22 := ⟨Tryz.f95.name, by decide, Tryz.func95.trans (congrArg some (by kernel_rfl))⟩
  f23 := ⟨Tryz.f96.name, by decide, Tryz.func96.trans (congrArg some (by kernel_rfl))⟩
  f24 := ⟨Tryz.f97.name, by decide, Tryz.func97.trans (congrArg some (by kernel_rfl))⟩
  f25 := ⟨Tryz.f98.name, by decide, Tryz.func98.trans (congrArg some (by kernel_rfl))⟩
  f26 := ⟨Tryz.f99.name, by decide, Tryz.func99.trans (congrArg some (by kernel_rfl))⟩
  f27 := ⟨Tryz.f100.name, by decide, Tryz.func100.trans (congrArg some (by kernel_rfl))⟩
  f28 := Tryz.func101.trans (congrArg some (by kernel_rfl))
  f29 := Tryz.func102.trans (congrArg some (by kernel_rfl))
  f46 := ⟨Tryz.f110.name, by decide, Tryz.func110.trans (congrArg some (by kernel_rfl))⟩
  f47 := Tryz.func111.trans (congrArg some (by kernel_rfl))
  f48 := Tryz.func112.trans (congrArg some (by kernel_rfl))
  f49 := ⟨Tryz.f113.name, by decide, Tryz.func113.trans (congrArg some (by kernel_rfl))⟩
  f50 := ⟨Tryz.f114.name, by decide, Tryz.func114.trans (congrArg some (by kernel_rfl))⟩
  f57 := ⟨Tryz.f119.name, by decide, Tryz.func119.trans (congrArg some (by kernel_rfl))⟩
  t0 := Tryz.underlying0
  a0 := Tryz.isAgg0
  z0 := Tryz.sizeOf0
  v0 := Tryz.zeroValue0
  t3 := Tryz.underlying3
  a3 := Tryz.isAgg3
  z3 := Tryz.sizeOf3
  v3 := Tryz.zeroValue3
  t4 := Tryz.underlying4
  a4 := Tryz.isAgg4
  z4 := Tryz.sizeOf4
  v4 := Tryz.zeroValue4
  t5 := Tryz.underlying5
  a5 := Tryz.isAgg5
  z5 := Tryz.sizeOf5
  v5 := Tryz.zeroValue5
  t9 := Tryz.underlying9
  a9 := Tryz.isAgg9
  z9 := Tryz.sizeOf9
  v9 := Tryz.zeroValue9
  t22 := Tryz.underlying134
  a22 := Tryz.isAgg134
  z22 := Tryz.sizeOf134
  v22 := Tryz.zeroValue134
  t25 := Tryz.underlying139
  a25 := Tryz.isAgg139
  z25 := Tryz.sizeOf139
  v25 := Tryz.zeroValue139
  t39 := Tryz.underlying123
  a39 := Tryz.isAgg123
  z39 := Tryz.sizeOf123
  v39 := Tryz.zeroValue123
  t45 := Tryz.underlying174
  a45 := Tryz.isAgg174
  z45 := Tryz.sizeOf174
  v45 := Tryz.zeroValue174
  t46 := Tryz.underlying175
  a46 := Tryz.isAgg175
  z46 := Tryz.sizeOf175
  v46 := Tryz.zeroValue175
  t50 := Tryz.underlying179
  a50 := Tryz.isAgg179
  z50 := Tryz.sizeOf179
  v50 := Tryz.zeroValue179
  t53 := Tryz.underlying182
  a53 := Tryz.isAgg182
  z53 := Tryz.sizeOf182
  v53 := Tryz.zeroValue182
  t55 := Tryz.underlying29
  a55 := Tryz.isAgg29
  z55 := Tryz.sizeOf29
  v55 := Tryz.zeroValue29
  t66 := Tryz.underlying192
  a66 := Tryz.isAgg192
  z66 := Tryz.sizeOf192
  v66 := Tryz.zeroValue192
  t70 := Tryz.underlying196
  a70 := Tryz.isAgg196
  z70 := Tryz.sizeOf196
  v70 := Tryz.zeroValue196
  t76 := Tryz.underlying198
  a76 := Tryz.isAgg198
  z76 := Tryz.sizeOf198
  v76 := Tryz.zeroValue198
  t77 := Tryz.underlying199
  a77 := Tryz.isAgg199
  z77 := Tryz.sizeOf199
  v77 := Tryz.zeroValue199 }

theorem less_cons {a b : UInt8} {s t : Bs} : Op.bytesLess (a :: s) (b :: t) = true ↔ a.toNat < b.toNat ∨ (a = b ∧ Op.bytesLess s t = true) := by
  rw [Op.bytesLess]
  simp [UInt8.lt_iff_toNat_lt]
theorem less_irrefl : ∀ s : Bs, Op.bytesLess s s = false
  | [] => rfl
  | a :: s => by
    rw [Bool.eq_false_iff, ne_eq, less_cons]
    rintro (h | ⟨_, h⟩)
    · omega
    · rw [less_irrefl s] at h
      cases h
theorem less_trans : ∀ {s t u : Bs}, Op.bytesLess s t = true → Op.bytesLess t u = true → Op.bytesLess s u = true
  | s, t, [], h1, h2 => by cases t <;> cases h2
  | s, [], c :: u, h1, h2 => by cases s <;> cases h1
  | [], b :: t, c :: u, h1, h2 => rfl
  | a :: s, b :: t, c :: u, h1, h2 => by
    rw [less_cons] at *
    rcases h1 with h1 | ⟨rfl, h1⟩ <;> rcases h2 with h2 | ⟨rfl, h2⟩
    · exact .inl (by omega)
    · exact .inl h1
    · exact .inl h2
    · exact .inr ⟨rfl, less_trans h1 h2⟩
theorem less_total : ∀ {s t : Bs}, Op.bytesLess s t = false → s = t ∨ Op.bytesLess t s = true
  | [], [], _ => .inl rfl
  | [], b :: t, h => by cases h
  | a :: s, [], h => .inr rfl
  | a :: s, b :: t, h => by
    rw [Bool.eq_false_iff, ne_eq, less_cons] at h
    rw [less_cons]
    rcases Nat.lt_trichotomy a.toNat b.toNat with h1 | h1 | h1
    · exact absurd (.inl h1) h
    · obtain rfl := UInt8.toNat_inj.1 h1
      have h2 : Op.bytesLess s t = false := by
        rw [Bool.eq_false_iff]
        exact fun h3 => h (.inr ⟨rfl, h3⟩)
      rcases less_total h2 with rfl | h3
      · exact .inl rfl
      · exact .inr (.inr ⟨rfl, h3⟩)
    · exact .inr (.inl h1)
theorem less_lex : ∀ {s t : Bs}, Op.bytesLess s t = true → lexB s t
  | s, [], h => by cases s <;> cases h
  | [], b :: t, h => trivial
  | a :: s, b :: t, h => by
    rcases less_cons.1 h with h | ⟨h1, h2⟩
    · exact .inl h
    · exact .inr ⟨h1, less_lex h2⟩
/-- How two leaves stand to each other. -/
def cmpL (x y : Lf) : Int := if Op.bytesLess x.1 y.1 = true then -1 else if Op.bytesLess y.1 x.1 = true then 1 else 0
theorem cmpL_lt (x y : Lf) : ltOf cmpL x y = Op.bytesLess x.1 y.1 := by
  unfold ltOf cmpL
  cases h : Op.bytesLess x.1 y.1
  · simp only [Bool.false_eq_true, if_false]
    split <;> rfl
  · rfl
theorem cmpL_swo : Sort.SWO (ltOf cmpL) where
  irrefl x := by rw [cmpL_lt]; exact less_irrefl _
  trans x y z h1 h2 := by rw [cmpL_lt] at *; exact less_trans h1 h2
  ntrans x y z h1 h2 := by
    rw [cmpL_lt] at *
    rcases less_total h1 with e | h
    · rw [e]; exact h2
    · cases h3 : Op.bytesLess x.1 z.1
      · rfl
      · rw [less_trans h h3] at h2
        cases h2
set_option maxHeartbeats 4000000 in
theorem isNaN_any (s : ByteArray) (W : World) : Calls Tryz.prog 79 #[.string s] W fun e w' => e = .returned (.bool false) ∧ w' = W := by
  go_enter Tryz.func79, Tryz.ntmps79
  go_wp2
  go_ret
  exact ⟨by simp, rfl⟩
set_option maxHeartbeats 4000000 in
theorem Compare_any (x y : Lf) (W : World) : Calls Tryz.prog 62 #[.string (bsS x.1), .string (bsS y.1)] W fun e w' => e = .returned (.int .i64 (cmpL x y)) ∧ w' = W := by
  have e1 := bsS_list x.1
  have e2 := bsS_list y.1
  cases h1 : Op.bytesLess x.1 y.1 with
  | true =>
    rw [show cmpL x y = -1 by unfold cmpL; rw [if_pos h1]]
    go_enter Tryz.func62, Tryz.ntmps62
    go_wp2_with (go_at_call 79; refine (isNaN_any _ _).mono ?_; rintro e w' ⟨rfl, rfl⟩)
    refine bodyPost_ret (by simp only [results, Tryz.results62]; go_simp; try rfl) rfl ⟨rfl, rfl⟩
  | false =>
    cases h2 : (x.1 == y.1) with
    | true =>
      have h3 : x.1 = y.1 := by simpa using h2
      rw [show cmpL x y = 0 by unfold cmpL; rw [h3, less_irrefl]; rfl]
      clear h3
      go_enter Tryz.func62, Tryz.ntmps62
      go_wp2_with (go_at_call 79; refine (isNaN_any _ _).mono ?_; rintro e w' ⟨rfl, rfl⟩)
      refine bodyPost_ret (by simp only [results, Tryz.results62]; go_simp; try rfl) rfl ⟨rfl, rfl⟩
    | false =>
      have h3 : Op.bytesLess y.1 x.1 = true := by
        rcases less_total h1 with e | h
        · rw [e] at h2
          simp at h2
        · exact h
      rw [show cmpL x y = 1 by unfold cmpL; rw [h1, h3]; rfl]
      clear h3
      go_enter Tryz.func62, Tryz.ntmps62
      go_wp2_with (go_at_call 79; refine (isNaN_any _ _).mono ?_; rintro e w' ⟨rfl, rfl⟩)
      refine bodyPost_ret (by simp only [results, Tryz.results62]; go_simp; try rfl) rfl ⟨rfl, rfl⟩
/-- A leaf's two cells. -/
def encL (x : Lf) : List Value := [.string (bsS x.1), .string (bsS x.2)]
set_option maxHeartbeats 4000000 in
theorem closure_any (x y : Lf) (W : World) : Calls Tryz.prog 61 #[.agg #[.string (bsS x.1), .string (bsS x.2)], .agg #[.string (bsS y.1), .string (bsS y.2)]] W fun e w' => e = .returned (.int .i64 (cmpL x y)) ∧ ∃ q os', w' = Sort.grow (W.drewN q) os' := by
  have cC := fun w => Compare_any x y w
  generalize cmpL x y = r at cC ⊢
  go_enter Tryz.func61, Tryz.ntmps61
  go_wp2_with (go_at_call 62; refine (cC _).mono ?_; rintro e w' ⟨rfl, rfl⟩)
  go_ret
  exact ⟨rfl, 0, _, by rw [Sort.alloc_eq_grow, Sort.alloc_eq_grow, Sort.grow_grow]; rfl⟩
/-- Leaves in a row, at block k from place o on. -/
def lfR (W : World) (k o : Nat) (L : List Lf) : Prop := ∀ (i : Nat) (x : Lf), L[i]? = some x → W.cell? ⟨k, o + i * 2, none⟩ = some (.string (bsS x.1)) ∧ W.cell? ⟨k, o + i * 2 + 1, none⟩ = some (.string (bsS x.2))
instance : Inhabited Lf := ⟨([], [])⟩
theorem sorted_pair {d : Array Lf} (h : Sort.SortedIn (ltOf cmpL) 0 d.size d) : d.toList.Pairwise fun a b => Op.bytesLess b.1 a.1 = false := by
  rw [List.pairwise_iff_getElem]
  intro i j hi hj hij
  have := h i j (Nat.zero_le _) hij (by simpa using hj)
  rw [cmpL_lt, getElem!_pos d i (by simpa using hi), getElem!_pos d j (by simpa using hj)] at this
  simpa using this
theorem sortW_other (W : World) (blk off n : Nat) (d : Array Lf) (os : Array Obj) : ∀ k, k < W.heap.size → k ≠ blk → (sortWorldK encL 2 W blk off n d os).heap[k]? = W.heap[k]? := by
  intro k hk hne
  show ((W.heap.modify blk _) ++ os)[k]? = _
  rw [Array.getElem?_append_left (by simpa using hk), Array.getElem?_modify, if_neg (Ne.symm hne)]
theorem sort_leaves (blk off cap : Nat) (L : List Lf) (W : World) (hblk : blk < W.heap.size) (hlen : L.length ≤ 1000000) (hr : lfR W blk off L) (hf : ∀ j, W.frozen? ⟨blk, j, none⟩ = false) :
    Calls Tryz.prog 60 #[.slice (some ⟨blk, off, none⟩) L.length cap, .func (.func 61) #[] #[]] W fun e w' => e = .returned (.tuple #[]) ∧
      ∃ L' : List Lf, L'.Perm L ∧ (L'.Pairwise fun a b => Op.bytesLess b.1 a.1 = false) ∧ lfR w' blk off L' ∧ Fr (fun k => k = blk) W w' := by
  have eg : ∀ args w, (callFunc 61 args).run Tryz.prog w = .ok (.enter 61 args) w := enters_of Tryz.func61 (by kernel_rfl) rfl
  have hH : Go.Sort.HoldsK encL 2 W blk off L.toArray := by
    intro j hj
    have hj2 : j < L.length * 2 := by simpa using hj
    rw [Go.Sort.get_flatK encL 2 L.toArray j (by simpa using hj2)]
    obtain ⟨x, hx⟩ : ∃ x, L[j / 2]? = some x := ⟨_, List.getElem?_eq_getElem (by omega)⟩
    have e : L.toArray[j / 2]! = x := by
      rw [getElem!_pos L.toArray (j / 2) (by simp; omega)]
      simpa using (List.getElem?_eq_some_iff.1 hx).2
    obtain ⟨c0, c1⟩ := hr (j / 2) x hx
    refine ⟨?_, hf _⟩
    rw [e]
    rcases Nat.mod_two_eq_zero_or_one j with h | h
    · rw [h]
      rw [show off + j / 2 * 2 = off + j by omega] at c0
      exact c0
    · rw [h]
      rw [show off + j / 2 * 2 + 1 = off + j by omega] at c1
      exact c1
  have hcon := AnyQ.slices_SortFunc sortLf 2 Tryz.isAgg136 Tryz.sizeOf136 encL (fun _ => rfl) (fun x v hv => by simp [encL] at hv; rcases hv with rfl | rfl <;> rfl) cmpL cmpL_swo 61 #[] blk off cap L.toArray W eg (fun _ _ _ _ x y => closure_any x y _) hH hblk (by simp; omega)
  change Calls Tryz.prog 60 _ _ _ at hcon
  have hs : L.toArray.size = L.length := by simp
  rw [hs] at hcon
  refine hcon.mono ?_
  rintro e w' ⟨rfl, d', n, os, hp, hso, rfl⟩
  have hsz : d'.size = L.length := hp.1.trans hs
  have hH2 := holdsK_sortWorldK_c encL 2 W blk off L.toArray d' n os hH hblk hp.1
  refine ⟨rfl, d'.toList, ?_, sorted_pair (by rw [hsz]; exact hso), ?_, ⟨rfl, rfl, rfl, ?_, fun k hk hT => sortW_other W blk off n d' os k hk hT⟩⟩
  · have := hp.2.2
    have e1 : (d'.extract 0 L.length).toList = d'.toList := by rw [← hsz, Array.extract_size]
    have e2 : (L.toArray.extract 0 L.length).toList = L := by rw [← hs, Array.extract_size]
    rwa [e1, e2] at this
  · intro i x hx
    have hi : i < d'.size := by simpa using (List.getElem?_eq_some_iff.1 hx).1
    have e : d'[i]! = x := by
      rw [getElem!_pos d' i hi]
      simpa using (List.getElem?_eq_some_iff.1 hx).2
    have c0 := (hH2.cell (i := i) (c := 0) hi (by decide)).1
    have c1 := (hH2.cell (i := i) (c := 1) hi (by decide)).1
    rw [e] at c0 c1
    exact ⟨c0, c1⟩
  · exact size_sortWorldK_c encL 2 W blk off n d' os
end Go.Proofs.YtijidnhaijdfaaaGreatDoor
