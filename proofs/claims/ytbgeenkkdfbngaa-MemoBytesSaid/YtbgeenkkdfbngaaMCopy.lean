/-
  The contracts of memo.Copy and of the document's Copy. Conditions: none.
-/
import Derived.Test.YtbgeenkkdfbngaaMSeq
import Derived.Test.YtbgeenkkdfbngaaMLoads
import Derived.Test.YtbgeenkkdfbngaaScope
namespace Go.Proofs.Ytbgeenkkdfbngaa
open Go.RowKit Go.Shelf
attribute [local go_sem] leftBy Oper.semAt_some
set_option linter.unusedSimpArgs false
set_option linter.unusedVariables false


def copyS (m : ByteArray) (q : Nat) (s : ByteArray) (a n : Nat) : ByteArray := if n = 0 then m else if q + n ≤ m.size then putS m q (strN n (srcF s a)) else ⟨#[]⟩
def copyE (m : ByteArray) (q n : Nat) : Int := if n = 0 then 0 else fitE m q n

/-- The first k bytes, as a builder holds them. -/
def firstL (f : Nat → Nat) (k : Nat) : List UInt8 := (List.range k).map fun j => UInt8.ofNat (f j)
theorem firstL_length (f : Nat → Nat) (k : Nat) : (Lib.byteCells (firstL f k)).length = k := by simp [Lib.byteCells, firstL]
theorem firstL_more (f : Nat → Nat) (k : Nat) (h : f k < 256) : Lib.byteCells (firstL f k) ++ [.int .u8 (f k : Nat)] = Lib.byteCells (firstL f (k + 1)) := by
  unfold firstL Lib.byteCells
  rw [List.range_succ, List.map_append, List.map_append]
  simp
  omega
theorem firstL_str (f : Nat → Nat) (k : Nat) : (⟨(firstL f k).toArray⟩ : ByteArray) = strN k f := by
  have h := strN_list k f
  generalize strN k f = t at *
  cases t with
  | mk d =>
    congr 1
    apply Array.ext'
    simp only [firstL]
    exact h.symm
theorem srcF_lt (s : ByteArray) (a k : Nat) : srcF s a k < 256 := by
  unfold srcF
  split
  · exact byteD_lt _ _
  · omega

theorem bld.grown {W W' : World} {b : Nat} {v : Value} {xs : List Value} {row : Option Nat} (h : bld W b v xs) (hg : W.grownBy W' row) (h1 : row ≠ some b) (h2 : v.ownBlock = none ∨ v.ownBlock ≠ row) : bld W' b v xs := by
  have one : ∀ p, bldP W b p v xs → bldP W' b p v xs := fun p h => ⟨(hg.block b h.lt (fun e => h1 e.symm)).trans h.1, h.2.1.kept hg h2, h.2.2⟩
  exact h.imp (one _) (one _)
theorem bld.below {W W' : World} {b : Nat} {v : Value} {xs : List Value} (h : bld W b v xs) (hb : Below W.heap.size W W') : bld W' b v xs :=
  h.grown (row := none) ⟨hb.os, hb.tape, hb.output, hb.size, fun k hk _ => hb.block k hk⟩ (by simp) (by cases v.ownBlock <;> simp)
theorem bld.lt {W : World} {b : Nat} {v : Value} {xs : List Value} (h : bld W b v xs) : b < W.heap.size := h.elim (fun h => h.lt) (fun h => h.lt)
theorem bld.has {W : World} {b : Nat} {v : Value} {xs : List Value} (h : bld W b v xs) : ∃ p, bldP W b p v xs := h.elim (fun h => ⟨_, h⟩) (fun h => ⟨_, h⟩)
theorem bld.put {W : World} {b l : Nat} {v : Value} {xs : List Value} {o : Obj} (h : bld W b v xs) (o' : Obj) (hl : W.heap[l]? = some o) (ho : o.isCells = false) : bld (W.putObj l o') b v xs := by
  obtain ⟨p, hp⟩ := h.has
  refine h.grown (grownBy_putObj' W l o') (fun e => ?_) (.inr fun e => ?_)
  · cases e
    rw [hp.1] at hl
    cases hl
    cases ho
  · have := hp.own_cells l o e hl
    rw [ho] at this
    cases this

theorem Len_below {W w' : World} {b : Nat} {v : Value} {xs : List Value} {n : Nat} (h : bld W b v xs) (hn : xs.length = n) (hb : Below W.heap.size W w') :
    Calls Try.prog 33 #[.pointer (some ⟨b, 0, none⟩)] w' fun e w2 => e = .returned (.int .i64 (n : Nat)) ∧ Below w'.heap.size w' w2 := by
  refine (Len_any (h.below hb)).mono ?_
  rintro e w2 ⟨rfl, rfl⟩
  exact ⟨by rw [hn], Below.refl _ _⟩

/-- How many bytes a builder holds. -/
def bufLen (b : Nat) (W : World) : Nat := match W.heap[b]? with
  | some (.cells #[_, .slice _ n _] _ _) => n
  | _ => 0
theorem bufLen_of {W : World} {b : Nat} {v : Value} {xs : List Value} (h : bld W b v xs) : bufLen b W = xs.length := by
  obtain ⟨p, h1, h2, _⟩ := h.has
  unfold bufLen
  rw [h1]
  rcases h2.2 with ⟨rfl, h0⟩ | ⟨g, cap, cur, rfl, _⟩
  · exact h0.symm
  · rfl

theorem bytesOf_any (s : ByteArray) (a : Nat) (w : World) :
    Calls Try.prog 32 #[.string s, W4 a] w fun e w' => e = .returned (.func (.func 42) #[] #[.pointer (some ⟨w.heap.size + 1, 0, none⟩), .pointer (some ⟨w.heap.size, 0, none⟩)]) ∧
      w' = (w.alloc (.cells #[.string s] 9)).alloc (.cells #[.int .u64 (lb a 0 : Nat), .int .u64 (lb a 1 : Nat), .int .u64 (lb a 2 : Nat), .int .u64 (lb a 3 : Nat)] 24) := by
  go_enter Try.func32, Try.ntmps32
  go_wp2
  go_ret
  exact ⟨rfl, rfl⟩

theorem keptB.trans {b : Nat} {A B C : World} (h : keptB b A B) (k : keptB b B C) : keptB b A C :=
  ⟨h.below.trans k.below, fun R o h1 h2 h3 h4 => by obtain ⟨h5, h6⟩ := h.block R o h1 h2 h3 h4; exact k.block R o h1 h5 h3 h6⟩
theorem keptB_put {b l : Nat} {W : World} (o' : Obj) (hb : b < l) (h : ∃ o, W.heap[l]? = some o ∧ o.isCells = false) : keptB b W (W.putObj l o') := by
  obtain ⟨o, hl, ho⟩ := h
  have z := (Array.getElem?_eq_some_iff.1 hl).1
  refine ⟨(Below.refl b W).grown (grownBy_putObj' W l o') (by omega) (fun k e => by cases e; omega), fun R o2 h1 h2 h3 h4 => ?_⟩
  have hR : R ≠ l := by
    rintro rfl
    rw [hl] at h2
    cases h2
    rw [ho] at h3
    cases h3
  refine ⟨(World.putObj_heap_other hR).trans h2, fun p v e => h4 p v ?_⟩
  rwa [World.putObj_heap_other (by omega)] at e
theorem keptB_wrote {b : Nat} {v v' : Value} {p p' : Value} {xs xs' : List Value} {W W' : World} (h : bldP W b p v xs) (h' : bldP W' b p' v' xs') (hw : wrote b v v' W W') : keptB b W W' := by
  refine ⟨hw.below, fun R o h1 h2 h3 h4 => ?_⟩
  have hR := (Array.getElem?_eq_some_iff.1 h2).1
  have hv := h4 _ _ h.1
  refine ⟨(hw.block R hR (by omega) hv).trans h2, fun p2 v2 e e2 => ?_⟩
  rw [h'.1] at e
  injection e with e
  injection e with e
  injection e with e
  injection e with _ e
  injection e with e _
  subst e
  rcases hw.own R e2 with e | e
  · exact hv e
  · omega
theorem keptB_below {b : Nat} {A B : World} (hb : Below A.heap.size A B) (h : b < A.heap.size) : keptB b A B := by
  refine ⟨hb.mono (by omega), fun R o h1 h2 h3 h4 => ⟨(hb.block R (Array.getElem?_eq_some_iff.1 h2).1).trans h2, fun p v e => h4 p v ?_⟩⟩
  rwa [hb.block b h] at e

/-- Between two rounds of Copy: k bytes have come. -/
def cpI (w : World) (f : Nat → Nat) (n k : Nat) (W : World) : Prop :=
  (∃ v, bld W (w.heap.size + 1 + 1) v (Lib.byteCells (firstL f k))) ∧ k ≤ n ∧ W.cell? ⟨w.heap.size + 1, 0, none⟩ = some (.int .u64 (n : Nat)) ∧ Below w.heap.size w W
theorem cpI.below {w W W' : World} {f : Nat → Nat} {n k : Nat} (h : cpI w f n k W) (hb : Below W.heap.size W W') : cpI w f n k W' := by
  obtain ⟨⟨v, hv⟩, hk, hc, hB⟩ := h
  have hl := hv.lt
  exact ⟨⟨v, hv.below hb⟩, hk, (hb.cell (p := ⟨w.heap.size + 1, 0, none⟩) (show w.heap.size + 1 < W.heap.size by omega)).trans hc, hB.trans (hb.mono hB.size)⟩
theorem cpI.put {w W : World} {f : Nat → Nat} {n k l : Nat} (h : cpI w f n k W) (o' : Obj) (hl : w.heap.size + 5 ≤ l) (ho : ∃ o, W.heap[l]? = some o ∧ o.isCells = false) : cpI w f n k (W.putObj l o') := by
  obtain ⟨⟨v, hv⟩, hk, hc, hB⟩ := h
  obtain ⟨o, hlo, hoc⟩ := ho
  refine ⟨⟨v, hv.put o' hlo hoc⟩, hk, ?_, ?_⟩
  · rw [← hc]
    exact World.cell?_of_block (World.putObj_heap_other (show w.heap.size + 1 ≠ l by omega))
  · exact hB.grown (grownBy_putObj' W l o') hB.size (fun k e => by cases e; omega)

set_option maxRecDepth 100000 in
set_option maxHeartbeats 4000000 in
theorem Copy_in (m : ByteArray) (q : Nat) (s : ByteArray) (a n : Nat) (hm : m.size ≤ 10000) (hs : s.size ≤ 10000) (ha : a < Q256) (hn : 0 < n) (hfit : q + n ≤ m.size) (w : World) :
    Calls Try.prog 21 #[.string m, .int .u64 (q : Nat), .string s, W4 a, .int .u64 (n : Nat)] w fun e w' => e = .returned (.tuple #[.string (putS m q (strN n (srcF s a))), .int .i64 0]) ∧ Below w.heap.size w w' := by
  have hmax : maxLen = 9223372036854775807 := rfl
  have cH := fun W => callsIn_FW (r := none) (n := 8) (has_any m q n (by omega) (by unfold M64; omega) (by unfold M64; omega) W)
  rw [decide_eq_true hfit] at cH
  refine calls_FW (n := 9) ?_
  refine callsIn_of_wp_marks Try.func21 rfl trivial ?_ rfl
  simp only [Try.ntmps21, List.size_toArray, List.length_cons, List.length_nil, Nat.reduceAdd, Nat.reduceSub, Array.replicate_succ, Array.replicate_zero, List.push_toArray, List.append_toArray, List.nil_append, List.cons_append]
  gi_wp2
  refine wpIn_scope rfl ?_
  gi_wp2_with (gi_at_call 25; (with_reducible refine (cH _).mono ?_); rintro e _ ⟨rfl, hww⟩; obtain rfl := hww.symm)
  refine wpIn_label ?_
  gi_wp2_with (gi_at_call 32; refine (callsIn_FW (bytesOf_any _ _ _)).mono ?_; rintro e w' ⟨rfl, rfl⟩)
  have hB : Below w.heap.size w (((w.alloc (.cells #[.int .u64 (lb a 0 : Nat), .int .u64 (lb a 1 : Nat), .int .u64 (lb a 2 : Nat), .int .u64 (lb a 3 : Nat)] 24)).alloc (.cells #[.int .u64 (n : Nat)] 22)).alloc (.cells #[.pointer none, .slice none 0 0] 54)) := (((Below.refl _ w).alloc (Nat.le_refl _) _).alloc (by simp) _).alloc (by simp; omega) _
  refine wpIn_rangeFunc_count (by omega) (gf := 42) (lb := #[.pointer (some ⟨w.heap.size + 1 + 1 + 1 + 1, 0, none⟩), .pointer (some ⟨w.heap.size + 1 + 1 + 1, 0, none⟩)]) rfl trivial (enters_of Try.func42 (by kernel_rfl) rfl)
    n 1 (fun k => .int .u8 (srcF s a k : Nat)) rfl (keptB (w.heap.size + 1 + 1)) (cpI w (srcF s a) n) (cpI w (srcF s a) n n) (fun k W W' h hb => h.below hb) ?hIp ?hXp (fun A B C h k => h.trans k) ?hKp ?h0 ?hiter ?hround ?hstop
  case hIp => exact fun k W l o' h hl ho => h.put o' (by simpa using hl) ho
  case hXp => exact fun W l o' h hl ho => h.put o' (by simpa using hl) ho
  case hKp => exact fun W l o' hl ho => keptB_put o' (by simp at hl; omega) ho
  case h0 =>
    refine ⟨⟨.slice none 0 0, .inl ⟨?_, World.ownsRow_nil _ _ _ _, by simp [Value.ownBlock]⟩⟩, by omega, ?_, ?_⟩
    · exact (Below.heap_alloc _ _ _ (by simp)).trans ((Below.heap_alloc _ _ _ (by simp)).trans (heap_new (by simp)))
    · exact cell_of_row _ _ 0 _ _ _ ((Below.heap_alloc _ _ _ (by simp)).trans ((Below.heap_alloc _ _ _ (by simp)).trans ((Below.heap_alloc _ _ _ (by simp)).trans (heap_new (by simp)))))
    · exact (hB.alloc (by simp; omega) _).alloc (by simp; omega) _
  case hiter =>
    intro l J Jx W hJI hJb hY hJ0 hbw
    refine bytes_in 8 l (w.heap.size + 1 + 1 + 1 + 1) (w.heap.size + 1 + 1 + 1) (w.heap.size + 1 + 1) s hs a ha n (bufLen (w.heap.size + 1 + 1)) J Jx W hJb ?_ ?_ hY ?_ ?_ ?_ hJ0
    · intro k W hk
      obtain ⟨⟨v, hv⟩, _⟩ := hJI k W hk
      rw [bufLen_of hv, firstL_length]
    · intro k W hk
      obtain ⟨⟨v, hv⟩, _⟩ := hJI k W hk
      exact ⟨v, _, hv⟩
    · exact (hbw.block _ (by simp)).trans (heap_new (by simp))
    · refine (hbw.cell (p := ⟨w.heap.size + 1 + 1 + 1, 0, none⟩) (by simp)).trans ?_
      exact cell_of_row _ _ 0 _ _ _ ((Below.heap_alloc _ _ _ (by simp)).trans (heap_new (by simp)))
    · have := hbw.size
      simp at this
      omega
  case hround =>
    intro l k W W2 hI
    gi_wp2
    refine ⟨trivial, ?_⟩
    have hI0 := hI
    obtain ⟨⟨v, hv⟩, hk, hc, hB2⟩ := hI
    have hvl := hv.lt
    have hcl : w.heap.size + 1 < W2.heap.size := by omega
    gi_wp2
    refine wpIn_flow (r := (some l)) (fun k => ([1, 1, 1, 1] : List Nat).getD k 1) (Below (W2.heap.size)) _ (Below.drew (Below.refl _ _)) (by kernel_rfl) (by kernel_rfl) ?_
    first | (refine flow_quiet rfl rfl (fun K hK => ?_); apply Exists.intro; apply And.intro; (focus (intro w' hw'; have hc := (bcell hw').1; go_simp; (try go_bits); all_goals (go_at_call 33; with_reducible refine (Len_below hv (firstL_length _ _) hw').mono ?_; rintro e w2 ⟨rfl, hb⟩; exact ⟨rfl, hw'.trans (hb.mono (below_le hw' (by simp)))⟩))); go_simp; (try go_bits); refine hK _ ?_; clear hK K) | (refine flow_quiet rfl rfl (fun K hK => ?_); apply Exists.intro; apply And.intro; (focus (intro w' hw'; have hc := (bcell hw').1; go_simp; (try go_bits); all_goals (go_at_call 33; refine (Len_below hv (firstL_length _ _) hw').mono ?_; rintro e w2 ⟨rfl, hb⟩; exact ⟨rfl, hw'.trans (hb.mono (below_le hw' (by simp)))⟩))); go_simp; (try go_bits); refine hK _ ?_; clear hK K)
    (refine flow_quiet rfl rfl (fun K hK => ?_); apply Exists.intro; apply And.intro; (focus (intro w' hw'; have hc := (bcell hw').1; go_simp; (try go_bits); all_goals (first | exact rfl | exact ⟨rfl, hw'⟩))); go_simp; (try go_bits); refine hK _ ?_; clear hK K)
    (refine flow_quiet rfl rfl (fun K hK => ?_); apply Exists.intro; apply And.intro; (focus (intro w' hw'; have hc := (bcell hw').1; go_simp; (try go_bits); all_goals (first | exact rfl | exact ⟨rfl, hw'⟩))); go_simp; (try go_bits); refine hK _ ?_; clear hK K)
    (refine flow_quiet rfl rfl (fun K hK => ?_); apply Exists.intro; apply And.intro; (focus (intro w' hw'; have hc := (bcell hw').1; go_simp; (try go_bits); all_goals (first | exact rfl | exact ⟨rfl, hw'⟩))); go_simp; (try go_bits); refine hK _ ?_; clear hK K)
    refine flow_nil ?_
    intro w' hw'
    have hI1 := hI0.below hw'
    by_cases hkn : k = n
    · subst hkn
      gi_wp2
      exact ⟨rfl, ⟨hw'.size, fun j o _ hj _ => (hw'.block j (Array.getElem?_eq_some_iff.1 hj).1).trans hj⟩, hI1⟩
    · have hkni : ((k : Int) == (n : Int)) = false := by simp; omega
      gi_wp2_with (gi_at_call 34; refine (callsIn_FW (WriteByte_any (hv.below hw') _ (by rw [firstL_length]; omega))).mono ?_; rintro e W3 ⟨rfl, v', hv', hwr⟩)
      obtain ⟨p, hp⟩ := (hv.below hw').has
      have hs1 := hw'.size
      refine ⟨⟨Nat.le_trans hw'.size hwr.below.size, fun j o _ hj ho => ?_⟩, (keptB_below hw' hvl).trans (keptB_wrote hp hv' hwr), ⟨⟨v', .inr ?_⟩, by omega, ?_, ?_⟩, by omega⟩
      · have hjl := (Array.getElem?_eq_some_iff.1 hj).1
        have hj' := (hw'.block j hjl).trans hj
        refine (hwr.block j (by omega) (fun e => ?_) (fun e => ?_)).trans hj'
        · subst e
          rw [hp.1] at hj'
          cases hj'
          cases ho
        · have := hp.own_cells j o e hj'
          rw [ho] at this
          cases this
      · rw [← firstL_more _ _ (srcF_lt _ _ _)]
        exact hv'
      · refine (World.cell?_of_block (a := ⟨w.heap.size + 1, 0, none⟩) (hwr.block (w.heap.size + 1) (by omega) (by omega) (fun e => ?_))).trans ((hw'.cell (p := ⟨w.heap.size + 1, 0, none⟩) hcl).trans hc)
        have := hp.own_lt _ e
        omega
      · exact hI1.2.2.2.trans (hwr.below.mono (by omega))
  case hstop =>
    intro D W hD hX hd
    obtain ⟨⟨v, hv⟩, _, _, hBw⟩ := hX
    have hne : firstL (srcF s a) n ≠ [] := by
      intro e
      have := congrArg List.length e
      simp [firstL] at this
      omega
    have cS := String_kept hv hne
    rw [firstL_str] at cS
    have hzs : (strN n (srcF s a)).size = n := strN_size _ _
    have cP := fun W => put_any m q (strN n (srcF s a)) (by omega) (by omega) (by omega) W
    generalize strN n (srcF s a) = T at *
    generalize putS m q T = Y at *
    gi_wp2_with (first | (gi_at_call 35; (with_reducible refine (callsIn_FW cS).mono ?_); rintro e W3 ⟨rfl, hb3, hk3⟩) | (gi_at_call 26; (with_reducible refine (callsIn_FW (cP _)).mono ?_); rintro e W4 ⟨rfl, hb4⟩))
    have hs3 := hb3.size
    have hD3 := hk3 D _ hd rfl
    have hDl := (Array.getElem?_eq_some_iff.1 hD3).1
    have hD4 := (hb4.block D hDl).trans hD3
    refine ⟨by simp, .inl ⟨_, _, rfl, run_takeDeferred hD4, ?_⟩⟩
    have hsw := hBw.size
    exact ⟨_, results_tmp2 rfl _ _ _, rfl, ((hBw.trans (hb3.mono (by omega))).trans (hb4.mono (by omega))).grown (grownBy_putObj' W4 D _) (by have := hb4.size; omega) (fun k e => by cases e; simp at hD; omega)⟩

set_option maxHeartbeats 4000000 in
theorem Copy_zero (m : ByteArray) (q : Nat) (s : ByteArray) (a : Nat) (w : World) :
    Calls Try.prog 21 #[.string m, .int .u64 (q : Nat), .string s, W4 a, .int .u64 0] w fun e w' => e = .returned (.tuple #[.string m, .int .i64 0]) ∧ Below w.heap.size w w' := by
  go_enter Try.func21, Try.ntmps21
  go_wp2
  go_step3
  go_wp2
  rw [Exit.noGoto_ret]
  refine bodyPost_ret (by simp only [results, Try.results21]; go_simp; try rfl) rfl ⟨rfl, ?_⟩
  repeat (with_reducible first | exact Below.refl _ _ | assumption | refine below_drewN ?_ _ | refine Below.drew ?_ | refine Below.setCell ?_ (by first | omega | (simp; done) | (simp; omega)) _ | refine Below.alloc ?_ (by first | omega | (simp; done) | (simp; omega)) _ | refine Below.trans ?_ (Below.mono (by assumption) (by first | omega | (simp; done) | (simp; omega))))

set_option maxHeartbeats 4000000 in
theorem Copy_out (m : ByteArray) (q : Nat) (s : ByteArray) (a n : Nat) (hm : m.size ≤ 10000) (hq : q < M64) (hn64 : n < M64) (hn : 0 < n) (hfit : ¬ q + n ≤ m.size) (w : World) :
    Calls Try.prog 21 #[.string m, .int .u64 (q : Nat), .string s, W4 a, .int .u64 (n : Nat)] w fun e w' => e = .returned (.tuple #[.string ⟨#[]⟩, .int .i64 2]) ∧ Below w.heap.size w w' := by
  have hmax : maxLen = 9223372036854775807 := rfl
  have cH := fun W => has_any m q n (by omega) hq hn64 W
  rw [decide_eq_false hfit] at cH
  have hn0 : ((n : Int) == 0) = false := by simp; omega
  go_enter Try.func21, Try.ntmps21
  go_wp2
  go_step3
  go_wp2_with (go_at_call 25; (with_reducible refine (cH _).mono ?_); rintro e _ ⟨rfl, hww⟩; obtain rfl := hww.symm)
  rw [Exit.noGoto_ret]
  refine bodyPost_ret (by simp only [results, Try.results21]; go_simp; try rfl) rfl ⟨rfl, ?_⟩
  repeat (with_reducible first | exact Below.refl _ _ | assumption | refine below_drewN ?_ _ | refine Below.drew ?_ | refine Below.setCell ?_ (by first | omega | (simp; done) | (simp; omega)) _ | refine Below.alloc ?_ (by first | omega | (simp; done) | (simp; omega)) _ | refine Below.trans ?_ (Below.mono (by assumption) (by first | omega | (simp; done) | (simp; omega))))

/-- memo.Copy. -/
theorem Copy_any (m : ByteArray) (q : Nat) (s : ByteArray) (a n : Nat) (hm : m.size ≤ 10000) (hs : s.size ≤ 10000) (hq : q < M64) (ha : a < Q256) (hn : n < M64) (w : World) :
    Calls Try.prog 21 #[.string m, .int .u64 (q : Nat), .string s, W4 a, .int .u64 (n : Nat)] w fun e w' => e = .returned (.tuple #[.string (copyS m q s a n), .int .i64 (copyE m q n)]) ∧ Below w.heap.size w w' := by
  unfold copyS copyE fitE
  by_cases h0 : n = 0
  · subst h0
    exact Copy_zero m q s a w
  · by_cases hf : q + n ≤ m.size
    · rw [if_neg h0, if_pos hf, if_neg h0, if_pos hf]
      exact Copy_in m q s a n hm hs ha (by omega) hf w
    · rw [if_neg h0, if_neg hf, if_neg h0, if_neg hf]
      exact Copy_out m q s a n hm hq hn (by omega) hf w
end Go.Proofs.Ytbgeenkkdfbngaa
