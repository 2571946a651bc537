/-
  New, at any list of what is known: its contract. Conditions: the list is one.
-/
import Derived.Test.YtcdjdnbdblpofaaDoorPL21
namespace Go.Proofs.YtcdjdnbdblpofaaDoor
open Go.RowKit Go.Maps
attribute [local go_sem] leftBy leaves Oper.semAt_some
set_option linter.unusedSimpArgs false
set_option linter.unusedVariables false

/-- v is a slice of the known accounts L. -/
def knL (W : World) (v : Value) (L : List Kw) : Prop :=
  ∃ a c, v = .slice a L.length c ∧ L.length ≤ c ∧ c ≤ maxLen ∧ ∀ i K, L[i]? = some K → ∃ b o, a = some ⟨b, o, none⟩ ∧ ∀ j u, K.v.cells[j]? = some u → W.cell? ⟨b, o + i * 12 + j, none⟩ = some u
theorem knL.below {W W' : World} {v : Value} {L : List Kw} (h : knL W v L) (hb : Below W.heap.size W W') : knL W' v L := by
  obtain ⟨a, c, hv, h1, h2, h3⟩ := h
  refine ⟨a, c, hv, h1, h2, fun i x hx => ?_⟩
  obtain ⟨b, o, ha, hc⟩ := h3 i x hx
  have hl := cell_lt (hc 0 _ rfl)
  exact ⟨b, o, ha, fun j u hu => (hb.cell (p := ⟨b, o + i * 12 + j, none⟩) hl).trans (hc j u hu)⟩
theorem knL_take {W : World} {a : Option Addr} {c : Nat} {L : List Kw} (h : knL W (.slice a L.length c) L) (m : Nat) : knL W (.slice a (L.take m).length c) (L.take m) := by
  obtain ⟨a2, c2, hv, h1, h2, h3⟩ := h
  obtain ⟨rfl, rfl⟩ : a = a2 ∧ c = c2 := by simpa using hv
  have hl : (L.take m).length ≤ L.length := by rw [List.length_take]; omega
  refine ⟨a, c, rfl, by omega, h2, fun i K hi => ?_⟩
  have hi2 := (List.getElem?_eq_some_iff.1 hi).1
  rw [List.getElem?_take, if_pos (by rw [List.length_take] at hi2; omega)] at hi
  exact h3 i K hi
def Kw.none : Kw := ⟨⟨#[]⟩, false, 0, 0, ⟨#[]⟩, ⟨#[]⟩, false, ⟨#[]⟩, .none, 0, 0, []⟩
/-- What comes in round k. -/
def backK (L : List Kw) (k : Nat) : Kw := L.getD (L.length - 1 - k) Kw.none

theorem Backward_kn (v : Value) (w : World) (h : ∃ a c d, v = .slice a c d) :
    Calls Tryd.prog 33 #[v] w fun e w' => e = .returned (.func (.func 56) #[] #[ptr w.heap.size]) ∧ w' = w.alloc (.cells #[v] 22) := by
  obtain ⟨a, c, d, rfl⟩ := h
  unfold ptr
  go_enter Tryd.func33, Tryd.ntmps33
  go_wp2
  go_ret
  exact ⟨rfl, rfl⟩

set_option maxRecDepth 100000 in
set_option maxHeartbeats 4000000 in
theorem back_it (n : Nat) (hn : 1 ≤ n) (l Bx : Nat) (v : Value) (L : List Kw) (J : Nat → World → Prop) (W : World)
    (hY : ∀ k W1, J k W1 → k < L.length → YieldAt (FW none) (n - 1) Tryd.prog l #[.int .i64 (L.length - 1 - k : Nat), (backK L k).v] W1 fun e W' => e = .returned (.bool true) ∧ J (k + 1) W' ∧ True)
    (hB : ∀ k W1, J k W1 → W1.cell? ⟨Bx, 0, none⟩ = some v ∧ knL W1 v L) (h0 : J 0 W) :
    CallsIn (FW none) n Tryd.prog 56 #[.func (.yield l) #[] #[], ptr Bx] W fun e W' => (∃ v, e = .returned v) ∧ J L.length W' := by
  obtain ⟨hB0, a, c, rfl, hc1, hc2, _⟩ := hB 0 W h0
  unfold maxLen at hc2
  have hc3 : L.length ≤ 9223372036854775807 := by omega
  unfold ptr
  refine callsIn_of_wp Tryd.func56 rfl trivial ?_ rfl
  simp only [Tryd.ntmps56, List.size_toArray, List.length_cons, List.length_nil, Nat.reduceAdd, Nat.reduceSub, Array.replicate_succ, Array.replicate_zero, List.push_toArray, List.append_toArray, List.nil_append, List.cons_append]
  gi_wp2
  gi_loopw [3] (fun x wr => (∃ k i : Nat, k + i + 1 = L.length ∧ x = .int .i64 (i : Nat) ∧ J k wr) ∨ (x = .int .i64 (-1) ∧ J L.length wr)) (fun x _ => (intOf x + 1).toNat)
  case atStart =>
    by_cases hz : L.length = 0
    · exact .inr ⟨by rw [hz]; go_num, hz ▸ h0⟩
    · exact .inl ⟨0, L.length - 1, by omega, by go_num, h0⟩
  case round =>
    rcases hrel with ⟨k, i, hki, rfl, hJ⟩ | ⟨rfl, hJ⟩
    · obtain ⟨hBk, hK⟩ := hB k wr hJ
      obtain ⟨a2, c2, hv, _, _, hcell⟩ := hK
      obtain ⟨rfl, rfl⟩ : a = a2 ∧ c = c2 := by simpa using hv
      clear hv
      have hLi : L[i]? = some (backK L k) := by
        unfold backK
        rw [List.getD_eq_getElem?_getD, show L.length - 1 - k = i by omega, List.getElem?_eq_getElem (by omega)]
        rfl
      obtain ⟨bl, o, rfl, hc⟩ := hcell i _ hLi
      clear hcell
      obtain ⟨fn, tmps, assign, body, hy, hR⟩ := hY k wr hJ (by omega)
      rw [show L.length - 1 - k = i by omega] at hy
      generalize backK L k = K at *
      have g0 : wr.cell? ⟨bl, o + i * 12, none⟩ = some (.string K.ad) := hc 0 _ rfl
      have g1 : wr.cell? ⟨bl, o + i * 12 + 1, none⟩ = some (.bool K.th) := hc 1 _ rfl
      have g2 : wr.cell? ⟨bl, o + i * 12 + 2, none⟩ = some (.int .u64 K.no) := hc 2 _ rfl
      have g3 : wr.cell? ⟨bl, o + i * 12 + 3, none⟩ = some (.int .u64 (lb K.ba 0 : Nat)) := hc 3 _ rfl
      have g4 : wr.cell? ⟨bl, o + i * 12 + 4, none⟩ = some (.int .u64 (lb K.ba 1 : Nat)) := hc 4 _ rfl
      have g5 : wr.cell? ⟨bl, o + i * 12 + 5, none⟩ = some (.int .u64 (lb K.ba 2 : Nat)) := hc 5 _ rfl
      have g6 : wr.cell? ⟨bl, o + i * 12 + 6, none⟩ = some (.int .u64 (lb K.ba 3 : Nat)) := hc 6 _ rfl
      have g7 : wr.cell? ⟨bl, o + i * 12 + 7, none⟩ = some (.string K.rt) := hc 7 _ rfl
      have g8 : wr.cell? ⟨bl, o + i * 12 + 8, none⟩ = some (.string K.cd) := hc 8 _ rfl
      have g9 : wr.cell? ⟨bl, o + i * 12 + 9, none⟩ = some (.bool K.hs) := hc 9 _ rfl
      have g10 : wr.cell? ⟨bl, o + i * 12 + 10, none⟩ = some (.string K.co) := hc 10 _ rfl
      have g11 : wr.cell? ⟨bl, o + i * 12 + 11, none⟩ = some (.slice K.cp K.cn K.cc) := hc 11 _ rfl
      clear hc hLi
      unfold Kw.v Kw.kn Kn.v at hy
      dsimp only at hy
      gi_wp2
      refine hR.mono ?_
      rintro e W3 ⟨rfl, hJ3, _⟩
      gi_wp2
      go_roundw
      case rel =>
        rcases i with _ | i
        · exact .inr ⟨by go_num, by rw [← hki]; exact hJ3⟩
        · exact .inl ⟨k + 1, i, by omega, by go_num, hJ3⟩
      case measure => simp [intOf]
    · gi_wp2
      go_end0
      exact ⟨⟨_, rfl⟩, hJ⟩

theorem MV.empty {ι : Type} {W : World} {kt : TypeId} {kv : ι → Value} {ok : ι → Prop} {mb : Nat} {z : Value} (h : W.heap[mb]? = some (.map #[] 0)) : MV W kt kv ok mb 0 z (fun _ => none) := by
  have h1 := World.ownsMap_made W Tryd.prog kt heldR
  obtain ⟨es, clock, h2, h3, h4, h5⟩ := h1
  rw [heap_new rfl] at h2
  injection h2 with h2
  injection h2 with e1 e2
  subst e1 e2
  exact ⟨_, ⟨_, _, h, h3, h4, h5⟩, fun i kl _ _ => ⟨rfl, rfl⟩⟩

/-- The world in which New's loop begins. -/
def newW (W : World) (lv : Value) : World := (((((((((W.alloc (.map #[] 0)).alloc (.map #[] 0)).alloc (.map #[] 0)).alloc (.map #[] 0)).alloc (.map #[] 0)).alloc (.map #[] 0)).alloc (.cells #[.map (some W.heap.size), .map (some (W.heap.size + 1)), .map (some (W.heap.size + 1 + 1)), .map (some (W.heap.size + 1 + 1 + 1)), .map (some (W.heap.size + 1 + 1 + 1 + 1)), .map (some (W.heap.size + 1 + 1 + 1 + 1 + 1)), .slice none 0 0, .slice none 0 0] 73)).alloc (.cells #[.pointer (some ⟨W.heap.size + 1 + 1 + 1 + 1 + 1 + 1, 0, none⟩)] 27)).alloc (.cells #[lv] 22))
theorem newW_facts (W : World) (lv : Value) : Below W.heap.size W (newW W lv) ∧ (newW W lv).heap.size = W.heap.size + 9 ∧ (∀ j, j ≤ 5 → (newW W lv).heap[W.heap.size + j]? = some (.map #[] 0)) ∧ stA (newW W lv) W.heap.size (.slice none 0 0) (.slice none 0 0) ∧
    (newW W lv).heap[W.heap.size + 7]? = some (.cells #[ptr (W.heap.size + 6)] 27 (0, 0)) ∧ (newW W lv).heap[W.heap.size + 8]? = some (.cells #[lv] 22 (0, 0)) := by
  unfold newW
  refine ⟨?_, by simp, fun j hj => ?_, ?_, ?_, ?_⟩
  · repeat (first | exact Below.refl _ _ | refine Below.alloc ?_ (by simp; try omega) _)
  · have : j = 0 ∨ j = 1 ∨ j = 2 ∨ j = 3 ∨ j = 4 ∨ j = 5 := by omega
    rcases this with rfl | rfl | rfl | rfl | rfl | rfl <;> (repeat (first | (refine heap_new ?_; (simp; done)) | refine (Below.heap_alloc _ _ _ (by simp; try omega)).trans ?_))
  · show _ = _
    repeat (first | (refine heap_new ?_; (simp; done)) | refine (Below.heap_alloc _ _ _ (by simp; try omega)).trans ?_)
  · repeat (first | (refine heap_new ?_; (simp; done)) | refine (Below.heap_alloc _ _ _ (by simp; try omega)).trans ?_)
  · exact heap_new (by simp)

theorem kfind_cons (K : Kw) (L : List Kw) (a : ByteArray) : kfind (K :: L) a = if a = K.ad then some K else kfind L a := by
  unfold kfind
  rw [List.find?_cons]
  by_cases e : a = K.ad
  · rw [if_pos e, decide_eq_true e.symm]
  · rw [if_neg e, decide_eq_false (fun h => e h.symm)]
/-- Between two rounds of New. -/
structure nwJ (w0 : World) (b : Nat) (L : List Kw) (k : Nat) (X : World) : Prop where
  fr : Fr (fun j => j = b ∨ j = b + 1) w0 X
  m0 : MV X 9 Value.string okT b (2 * k) Kn.zero.v (fun a => (kfind (L.drop (L.length - k)) a).map Kw.v)
  m1 : MV X 9 Value.string okT (b + 1) (2 * k) (W4 0) (fun a => (kfind (L.drop (L.length - k)) a).map fun K => W4 (if K.th then K.ba else 0))
theorem nwJ.below {w0 X Y : World} {b k : Nat} {L : List Kw} (h : nwJ w0 b L k X) (hb : Below X.heap.size X Y) : nwJ w0 b L k Y :=
  ⟨h.fr.below hb, h.m0.at_block (hb.block _ h.m0.lt), h.m1.at_block (hb.block _ h.m1.lt)⟩
theorem nwJ.turned {w0 X Y : World} {b k l : Nat} {L : List Kw} (h : nwJ w0 b L k X) (hb : b + 1 < w0.heap.size) (hl : w0.heap.size ≤ l) (ht : recTurned l X Y) : nwJ w0 b L k Y :=
  ⟨h.fr.turned hl ht, h.m0.at_block (ht.other (by omega)), h.m1.at_block (ht.other (by omega))⟩
/-- A map is written once. -/
structure mpV {ι : Type} (W1 : World) (kt : TypeId) (kv : ι → Value) (ok : ι → Prop) (mb N : Nat) (z : Value) (f g : ι → Option Value) (s : Bool) (w' : World) : Prop where
  fr : Fr (fun j => j = mb) W1 w'
  now : if s then MV w' kt kv ok mb (N + 1) z g else MV w' kt kv ok mb N z f


set_option maxRecDepth 100000 in
set_option maxHeartbeats 16000000 in
theorem New_any {W : World} {v : Value} {L : List Kw} (hv : knL W v L) (hn : L.length ≤ 200) (hL : ∀ K ∈ L, okT K.ad) :
    Calls Tryd.prog 10 #[v] W fun e w' => e = .returned (ptr (W.heap.size + 6)) ∧ Below W.heap.size W w' ∧ SRep w' (fun k => W.heap.size ≤ k ∧ k < w'.heap.size) W.heap.size (2 * L.length) L [] := by
  have hmm := @run_makeMap Tryd.prog
  have hvv := hv
  obtain ⟨a, c, rfl, hc1, hc2, _⟩ := hvv
  have hc3 : L.length ≤ 9223372036854775807 := by omega
  unfold maxLen at hc2
  have hmin : min (L.length : Int) 200 = (L.length : Int) := by omega
  refine calls_FW (n := 9) ?_
  refine callsIn_of_wp_marks Tryd.func10 rfl trivial ?_ rfl
  simp only [Tryd.ntmps10, List.size_toArray, List.length_cons, List.length_nil, Nat.reduceAdd, Nat.reduceSub, Array.replicate_succ, Array.replicate_zero, List.push_toArray, List.append_toArray, List.nil_append, List.cons_append]
  gi_wp2_with (gi_at_call 33; refine (callsIn_FW (Backward_kn _ _ ⟨_, _, _, rfl⟩)).mono ?_; rintro e w' ⟨rfl, rfl⟩)
  obtain ⟨bB, z0, hE, s6, h7, h8⟩ := newW_facts W (.slice a L.length c)
  change Code.wpIn _ _ _ _ _ _ (newW W (.slice a L.length c))
  generalize newW W (.slice a L.length c) = w0 at *
  replace z0 := Nat.le_of_eq z0.symm
  refine wpIn_rangeFunc_list (by omega) (gf := 56) (lb := #[.pointer (some ⟨W.heap.size + 8, 0, none⟩)]) rfl trivial (enters_of Tryd.func56 (by kernel_rfl) rfl)
    L.length (fun k => #[.int .i64 (L.length - 1 - k : Nat), (backK L k).v]) (fun _ => rfl) (fun _ _ => True) (nwJ w0 W.heap.size L) (fun k X Y h hb => h.below hb) (fun k l X Y h hl ht => h.turned (by omega) hl ht) (fun _ _ _ _ _ => trivial) (fun _ _ _ => trivial) (fun _ _ _ _ _ => trivial)
    ⟨Fr.refl _ _, (MV.empty (hE 0 (by omega))).ext fun a _ => (by rw [Nat.sub_zero, List.drop_length]; rfl), (MV.empty (hE 1 (by omega))).ext fun a _ => (by rw [Nat.sub_zero, List.drop_length]; rfl)⟩ ?hiter ?hround ?hdone
  case hiter =>
    intro l J X hJI hJb hY hJ0 hbX
    exact back_it 8 (by omega) l _ (.slice a L.length c) L J X hY (fun k Y hJ => by
      have hI := hJI k Y hJ
      have h8' := (hI.fr.block (W.heap.size + 8) (by omega) (by omega)).trans h8
      refine ⟨by simp [World.cell?, h8'], ?_⟩
      exact hv.below (bB.trans (hI.fr.toBelow (by omega) (fun k hk => by omega)))) hJ0
  case hround =>
    intro l k X hl hI hk
    have hXs := hI.fr.size
    have hd : L.drop (L.length - (k + 1)) = backK L k :: L.drop (L.length - k) := by
      rw [List.drop_eq_getElem_cons (by omega), show L.length - (k + 1) + 1 = L.length - k by omega]
      congr 1
      unfold backK
      rw [List.getD_eq_getElem?_getD, show L.length - 1 - k = L.length - (k + 1) by omega, List.getElem?_eq_getElem (by omega)]
      rfl
    have hKm : backK L k ∈ L := List.mem_of_mem_drop (by rw [hd]; exact List.mem_cons_self ..)
    have hKt := hL _ hKm
    clear hKm
    generalize backK L k = K at *
    obtain ⟨ad, th, no, ba, rt, cd, hs, co, cp, cn, cc, cs⟩ := K
    have hg0 : ∀ a, (if a = ad then some (Kw.v ⟨ad, th, no, ba, rt, cd, hs, co, cp, cn, cc, cs⟩) else (kfind (L.drop (L.length - k)) a).map Kw.v) = (kfind (L.drop (L.length - (k + 1))) a).map Kw.v := fun a => by
      rw [hd, kfind_cons]
      split <;> rfl
    have hg1 : ∀ a, (if a = ad then some (W4 (if th then ba else 0)) else (kfind (L.drop (L.length - k)) a).map fun K => W4 (if K.th then K.ba else 0)) = (kfind (L.drop (L.length - (k + 1))) a).map fun K => W4 (if K.th then K.ba else 0) := fun a => by
      rw [hd, kfind_cons]
      split <;> rfl
    clear hd
    unfold Kw.v Kw.kn Kn.v
    dsimp only at *
    gi_wp2
    refine ⟨(Below.refl _ X).alloc (Nat.le_refl _) _, fun W2 ht => ?_⟩
    have v2 : W2.heap[X.heap.size]? = some (.cells #[.string ad, .bool th, .int .u64 no, .int .u64 (lb ba 0 : Nat), .int .u64 (lb ba 1 : Nat), .int .u64 (lb ba 2 : Nat), .int .u64 (lb ba 3 : Nat), .string rt, .string cd, .bool hs, .string co, .slice cp cn cc] 65 (0, 0)) := ht.cells (heap_new rfl) rfl
    have hs2 : X.heap.size + 1 ≤ W2.heap.size := by
      obtain ⟨x1, x2, x3, x4, rfl⟩ := ht
      have := (grownBy_putObj' (X.alloc (.cells #[.string ad, .bool th, .int .u64 no, .int .u64 (lb ba 0 : Nat), .int .u64 (lb ba 1 : Nat), .int .u64 (lb ba 2 : Nat), .int .u64 (lb ba 3 : Nat), .string rt, .string cd, .bool hs, .string co, .slice cp cn cc] 65)) l x2).size
      rw [World.size_alloc] at this
      exact this
    have ho : ∀ j, j < w0.heap.size → W2.heap[j]? = X.heap[j]? := fun j hj => (ht.other (by omega)).trans (Below.heap_alloc _ _ _ (by omega))
    have s2 : stA W2 W.heap.size (.slice none 0 0) (.slice none 0 0) := (ho _ (by omega)).trans ((hI.fr.block _ (by omega) (by omega)).trans s6)
    have p2 : W2.heap[W.heap.size + 1 + 1 + 1 + 1 + 1 + 1 + 1]? = some (.cells #[.pointer (some ⟨W.heap.size + 6, 0, none⟩)] 27 (0, 0)) := (ho _ (by omega)).trans ((hI.fr.block _ (by omega) (by omega)).trans h7)
    have m0 := hI.m0.at_block (ho _ (by omega))
    have m1 := hI.m1.at_block (ho _ (by omega))
    have hF2 : Fr (fun j => j = W.heap.size ∨ j = W.heap.size + 1) w0 W2 := (hI.fr.alloc _).turned hl ht
    clear ht ho hI
    obtain ⟨d0, d1, _⟩ := s2.cells
    obtain ⟨x0, x1, x2, x3, x4, x5, x6, x7, x8, x9, x10, x11⟩ := cells12 v2
    have q7 : W2.cell? ⟨W.heap.size + 1 + 1 + 1 + 1 + 1 + 1 + 1, 0, none⟩ = some (.pointer (some ⟨W.heap.size + 6, 0, none⟩)) := by simp [World.cell?, p2]
    have hkN : 2 * k + 2 < 1000 := by omega
    have hWs : w0.heap.size ≤ W2.heap.size := by omega
    gi_wp2
    refine wpIn_flowU (r := (some l)) (fun k => ([1, 1, 1, 1, 1, 1, 1, 2] : List Nat).getD k 1) (mpV W2 9 Value.string okT W.heap.size (2 * k) Kn.zero.v (fun a => (kfind (L.drop (L.length - k)) a).map Kw.v) (fun a => if a = ad then some (.agg #[.string ad, .bool th, .int .u64 no, .int .u64 (lb ba 0 : Nat), .int .u64 (lb ba 1 : Nat), .int .u64 (lb ba 2 : Nat), .int .u64 (lb ba 3 : Nat), .string rt, .string cd, .bool hs, .string co, .slice cp cn cc]) else (kfind (L.drop (L.length - k)) a).map Kw.v)) (fun _ => True) (false) (⟨Fr.drew (Fr.refl _ _), m0⟩) trivial (by kernel_rfl) (by kernel_rfl) ?_
    iterate 7 ((refine flowU_readE rfl rfl (fun K hK => ?_); apply Exists.intro; apply And.intro; (focus (intro w' hR; have z7 := hR.fr.cell q7 (by omega) (by omega); have e0 := hR.fr.cell d0 (by omega) (by omega); have e1 := hR.fr.cell d1 (by omega) (by omega); have u0 := hR.fr.cell x0 (by omega) (by omega); have u1 := hR.fr.cell x1 (by omega) (by omega); have u2 := hR.fr.cell x2 (by omega) (by omega); have u3 := hR.fr.cell x3 (by omega) (by omega); have u4 := hR.fr.cell x4 (by omega) (by omega); have u5 := hR.fr.cell x5 (by omega) (by omega); have u6 := hR.fr.cell x6 (by omega) (by omega); have u7 := hR.fr.cell x7 (by omega) (by omega); have u8 := hR.fr.cell x8 (by omega) (by omega); have u9 := hR.fr.cell x9 (by omega) (by omega); have u10 := hR.fr.cell x10 (by omega) (by omega); have u11 := hR.fr.cell x11 (by omega) (by omega); clear hR; go_simp; (try go_bits); exact rfl)); go_simp; (try go_bits); refine hK _ ?_; clear hK K))
    refine flowU_step (fun v s => v = undef ∧ s = true) (by decide) rfl ⟨undef, true, rfl, rfl⟩ (fun w' hR => ?_) (fun _ _ _ _ _ => trivial) (fun K hK v s2 hs2 => ?_)
    focus
      have hm := hR.now
      rw [if_neg (by simp)] at hm
      obtain ⟨w2, hrun, hm2, hgr⟩ := hm.put keyT Tryd.underlying66 (by unfold maxLen; omega) ad hKt (.agg #[.string ad, .bool th, .int .u64 no, .int .u64 (lb ba 0 : Nat), .int .u64 (lb ba 1 : Nat), .int .u64 (lb ba 2 : Nat), .int .u64 (lb ba 3 : Nat), .string rt, .string cd, .bool hs, .string co, .slice cp cn cc])
      have hfr := hR.fr
      clear hR hm
      go_simp
      exact ⟨hfr.trans ⟨hgr.os, hgr.tape, hgr.output, hgr.size, fun j hj hT => hgr.block j hj (by simpa using hT)⟩, by rw [if_pos rfl]; exact hm2⟩
    obtain ⟨rfl, rfl⟩ := hs2
    (go_simp; refine hK _ _ ?_; clear hK K)
    refine flowU_nil ?_
    intro W3 hR3
    have n0 := hR3.now
    rw [if_pos rfl] at n0
    have hF3 := hR3.fr
    clear hR3
    have hs3 := hF3.size
    replace m1 := m1.at_block (hF3.block _ (by omega) (by omega))
    replace q7 := hF3.cell q7 (by omega) (by omega)
    replace d0 := hF3.cell d0 (by omega) (by omega)
    replace d1 := hF3.cell d1 (by omega) (by omega)
    replace x0 := hF3.cell x0 (by omega) (by omega)
    replace x1 := hF3.cell x1 (by omega) (by omega)
    replace x2 := hF3.cell x2 (by omega) (by omega)
    replace x3 := hF3.cell x3 (by omega) (by omega)
    replace x4 := hF3.cell x4 (by omega) (by omega)
    replace x5 := hF3.cell x5 (by omega) (by omega)
    replace x6 := hF3.cell x6 (by omega) (by omega)
    replace x7 := hF3.cell x7 (by omega) (by omega)
    replace x8 := hF3.cell x8 (by omega) (by omega)
    replace x9 := hF3.cell x9 (by omega) (by omega)
    replace x10 := hF3.cell x10 (by omega) (by omega)
    replace x11 := hF3.cell x11 (by omega) (by omega)
    clear m0
    gi_wp2
    refine wpIn_flowU (r := (some l)) (fun k => ([1, 1, 1, 1, 1, 1, 1, 2] : List Nat).getD k 1) (mpV W3 9 Value.string okT (W.heap.size + 1) (2 * k) (W4 0) (fun a => (kfind (L.drop (L.length - k)) a).map fun K => W4 (if K.th then K.ba else 0)) (fun a => if a = ad then some (.agg #[.int .u64 0, .int .u64 0, .int .u64 0, .int .u64 0]) else (kfind (L.drop (L.length - k)) a).map fun K => W4 (if K.th then K.ba else 0))) (fun _ => True) (false) (⟨Fr.drew (Fr.refl _ _), m1⟩) trivial (by kernel_rfl) (by kernel_rfl) ?_
    iterate 7 ((refine flowU_readE rfl rfl (fun K hK => ?_); apply Exists.intro; apply And.intro; (focus (intro w' hR; have z7 := hR.fr.cell q7 (by omega) (by omega); have e0 := hR.fr.cell d0 (by omega) (by omega); have e1 := hR.fr.cell d1 (by omega) (by omega); have u0 := hR.fr.cell x0 (by omega) (by omega); have u1 := hR.fr.cell x1 (by omega) (by omega); have u2 := hR.fr.cell x2 (by omega) (by omega); have u3 := hR.fr.cell x3 (by omega) (by omega); have u4 := hR.fr.cell x4 (by omega) (by omega); have u5 := hR.fr.cell x5 (by omega) (by omega); have u6 := hR.fr.cell x6 (by omega) (by omega); have u7 := hR.fr.cell x7 (by omega) (by omega); have u8 := hR.fr.cell x8 (by omega) (by omega); have u9 := hR.fr.cell x9 (by omega) (by omega); have u10 := hR.fr.cell x10 (by omega) (by omega); have u11 := hR.fr.cell x11 (by omega) (by omega); clear hR; go_simp; (try go_bits); exact rfl)); go_simp; (try go_bits); refine hK _ ?_; clear hK K))
    refine flowU_step (fun v s => v = undef ∧ s = true) (by decide) rfl ⟨undef, true, rfl, rfl⟩ (fun w' hR => ?_) (fun _ _ _ _ _ => trivial) (fun K hK v s2 hs2 => ?_)
    focus
      have hm := hR.now
      rw [if_neg (by simp)] at hm
      obtain ⟨w2, hrun, hm2, hgr⟩ := hm.put keyT Tryd.underlying67 (by unfold maxLen; omega) ad hKt (.agg #[.int .u64 0, .int .u64 0, .int .u64 0, .int .u64 0])
      have hfr := hR.fr
      clear hR hm
      go_simp
      exact ⟨hfr.trans ⟨hgr.os, hgr.tape, hgr.output, hgr.size, fun j hj hT => hgr.block j hj (by simpa using hT)⟩, by rw [if_pos rfl]; exact hm2⟩
    obtain ⟨rfl, rfl⟩ := hs2
    (go_simp; refine hK _ _ ?_; clear hK K)
    refine flowU_nil ?_
    intro W4' hR4
    have n1 := hR4.now
    rw [if_pos rfl] at n1
    have hF4 := hR4.fr
    clear hR4
    have hs4 := hF4.size
    replace n0 := n0.at_block (hF4.block _ (by omega) (by omega))
    replace q7 := hF4.cell q7 (by omega) (by omega)
    replace d0 := hF4.cell d0 (by omega) (by omega)
    replace d1 := hF4.cell d1 (by omega) (by omega)
    replace x0 := hF4.cell x0 (by omega) (by omega)
    replace x1 := hF4.cell x1 (by omega) (by omega)
    replace x2 := hF4.cell x2 (by omega) (by omega)
    replace x3 := hF4.cell x3 (by omega) (by omega)
    replace x4 := hF4.cell x4 (by omega) (by omega)
    replace x5 := hF4.cell x5 (by omega) (by omega)
    replace x6 := hF4.cell x6 (by omega) (by omega)
    replace x7 := hF4.cell x7 (by omega) (by omega)
    replace x8 := hF4.cell x8 (by omega) (by omega)
    replace x9 := hF4.cell x9 (by omega) (by omega)
    replace x10 := hF4.cell x10 (by omega) (by omega)
    replace x11 := hF4.cell x11 (by omega) (by omega)
    clear m1
    have hfin : ∀ X' : World, Fr (fun j => j = W.heap.size + 1) W4' X' → Fr (fun j => j = W.heap.size ∨ j = W.heap.size + 1) w0 X' ∧ KeepsFrom w0.heap.size W2 X' := fun X' h => by
      have hb : ∀ j, j < W2.heap.size → j ≠ W.heap.size → j ≠ W.heap.size + 1 → X'.heap[j]? = W2.heap[j]? := fun j hj e0 e1 => (h.block j (by omega) e1).trans ((hF4.block j (by omega) e1).trans (hF3.block j hj e0))
      refine ⟨⟨h.os.trans (hF4.os.trans (hF3.os.trans hF2.os)), h.tape.trans (hF4.tape.trans (hF3.tape.trans hF2.tape)), h.output.trans (hF4.output.trans (hF3.output.trans hF2.output)), by have := h.size; omega, fun j hj hT => (hb j (by omega) (fun e => hT (.inl e)) (fun e => hT (.inr e))).trans (hF2.block j hj hT)⟩, by have := h.size; omega, fun j o hj1 hj2 _ => (hb j (Array.getElem?_eq_some_iff.1 hj2).1 (by omega) (by omega)).trans hj2⟩
    have hN2 : 2 * (k + 1) = 2 * k + 1 + 1 := by omega
    cases th with
    | false =>
      gi_wp2
      obtain ⟨f1, f2⟩ := hfin W4' (Fr.refl _ _)
      refine ⟨f2, f1, ?_, ?_⟩
      · exact (n0.mono (by omega)).ext fun a _ => hg0 a
      · refine (n1.mono (by omega)).ext fun a _ => ?_
        have := hg1 a
        simp only [Bool.false_eq_true, if_false, W4_zero] at this
        exact this
    | true =>
      gi_wp2
      refine wpIn_flowU (r := (some l)) (fun k => ([1, 1, 1, 1, 1, 1, 1, 1, 1, 2] : List Nat).getD k 1) (mpV W4' 9 Value.string okT (W.heap.size + 1) (2 * k + 1) (W4 0) (fun a => if a = ad then some (.agg #[.int .u64 0, .int .u64 0, .int .u64 0, .int .u64 0]) else (kfind (L.drop (L.length - k)) a).map fun K => W4 (if K.th then K.ba else 0)) (fun a => if a = ad then some (.agg #[.int .u64 (lb ba 0 : Nat), .int .u64 (lb ba 1 : Nat), .int .u64 (lb ba 2 : Nat), .int .u64 (lb ba 3 : Nat)]) else if a = ad then some (.agg #[.int .u64 0, .int .u64 0, .int .u64 0, .int .u64 0]) else (kfind (L.drop (L.length - k)) a).map fun K => W4 (if K.th then K.ba else 0))) (fun _ => True) (false) (⟨Fr.drew (Fr.refl _ _), n1⟩) trivial (by kernel_rfl) (by kernel_rfl) ?_
      iterate 9 ((refine flowU_readE rfl rfl (fun K hK => ?_); apply Exists.intro; apply And.intro; (focus (intro w' hR; have z7 := hR.fr.cell q7 (by omega) (by omega); have e0 := hR.fr.cell d0 (by omega) (by omega); have e1 := hR.fr.cell d1 (by omega) (by omega); have u0 := hR.fr.cell x0 (by omega) (by omega); have u1 := hR.fr.cell x1 (by omega) (by omega); have u2 := hR.fr.cell x2 (by omega) (by omega); have u3 := hR.fr.cell x3 (by omega) (by omega); have u4 := hR.fr.cell x4 (by omega) (by omega); have u5 := hR.fr.cell x5 (by omega) (by omega); have u6 := hR.fr.cell x6 (by omega) (by omega); have u7 := hR.fr.cell x7 (by omega) (by omega); have u8 := hR.fr.cell x8 (by omega) (by omega); have u9 := hR.fr.cell x9 (by omega) (by omega); have u10 := hR.fr.cell x10 (by omega) (by omega); have u11 := hR.fr.cell x11 (by omega) (by omega); clear hR; go_simp; (try go_bits); exact rfl)); go_simp; (try go_bits); refine hK _ ?_; clear hK K))
      refine flowU_step (fun v s => v = undef ∧ s = true) (by decide) rfl ⟨undef, true, rfl, rfl⟩ (fun w' hR => ?_) (fun _ _ _ _ _ => trivial) (fun K hK v s2 hs2 => ?_)
      focus
        have hm := hR.now
        rw [if_neg (by simp)] at hm
        obtain ⟨w2, hrun, hm2, hgr⟩ := hm.put keyT Tryd.underlying67 (by unfold maxLen; omega) ad hKt (.agg #[.int .u64 (lb ba 0 : Nat), .int .u64 (lb ba 1 : Nat), .int .u64 (lb ba 2 : Nat), .int .u64 (lb ba 3 : Nat)])
        have hfr := hR.fr
        clear hR hm
        go_simp
        exact ⟨hfr.trans ⟨hgr.os, hgr.tape, hgr.output, hgr.size, fun j hj hT => hgr.block j hj (by simpa using hT)⟩, by rw [if_pos rfl]; exact hm2⟩
      obtain ⟨rfl, rfl⟩ := hs2
      (go_simp; refine hK _ _ ?_; clear hK K)
      refine flowU_nil ?_
      intro W5 hR5
      have n2 := hR5.now
      rw [if_pos rfl] at n2
      have hF5 := hR5.fr
      clear hR5
      gi_wp2
      obtain ⟨f1, f2⟩ := hfin W5 hF5
      refine ⟨f1, ?_, ?_⟩
      · exact ((n0.at_block (hF5.block _ (by omega) (by omega))).mono (by omega)).ext fun a _ => hg0 a
      · refine (n2.mono (by omega)).ext fun a _ => ?_
        have := hg1 a
        simp only [if_true] at this
        rw [← this]
        by_cases e : a = ad
        · rw [if_pos e, if_pos e]
        · rw [if_neg e, if_neg e, if_neg e]
  case hdone =>
    intro D X hD hI hd
    have hXs := hI.fr.size
    have h7' : X.heap[W.heap.size + 1 + 1 + 1 + 1 + 1 + 1 + 1]? = some (.cells #[ptr (W.heap.size + 6)] 27 (0, 0)) := (hI.fr.block (W.heap.size + 7) (by omega) (by omega)).trans h7
    have c7 : X.cell? ⟨W.heap.size + 1 + 1 + 1 + 1 + 1 + 1 + 1, 0, none⟩ = some (ptr (W.heap.size + 6)) := by simp [World.cell?, h7']
    gi_wp2
    refine ⟨by simp, .inl ⟨_, _, rfl, run_takeDeferred hd, ?_⟩⟩
    have hfin : ∀ X', recTurned D X X' → Below W.heap.size W X' ∧ SRep X' (fun k => W.heap.size ≤ k ∧ k < X'.heap.size) W.heap.size (2 * L.length) L [] := fun X' ht => by
      have hF : Fr (fun j => j = W.heap.size ∨ j = W.heap.size + 1) w0 X' := hI.fr.turned hD ht
      have hB := bB.trans (hF.toBelow (n := W.heap.size) (by omega) (fun k hk => by rcases hk with h | h <;> omega))
      have hXs' := hF.size
      refine ⟨hB, .slice none 0 0, ⟨fun k hk => hk.2, fun j hj => ⟨by omega, by omega⟩, ⟨.slice none 0 0, (hF.block _ (by omega) (by omega)).trans s6, World.ownsRow_nil _ _ _ _, fun k hk => (by cases hk)⟩, ?_, ?_, ?_, ?_, ?_, ?_⟩, [], World.ownsRow_nil _ _ _ _, fun k hk => (by cases hk), rfl⟩
      · exact (hI.m0.at_block (ht.other (by omega))).ext fun a _ => by rw [Nat.sub_self, List.drop_zero]
      · refine (hI.m1.at_block (ht.other (by omega))).ext fun a _ => ?_
        rw [Nat.sub_self, List.drop_zero]
        unfold baF ba0
        cases kfind L a <;> rfl
      all_goals
        exact ((MV.empty ((hF.block _ (by omega) (by omega)).trans (hE _ (by omega)))).mono (Nat.zero_le _)).ext fun a _ => rfl
    exact ⟨_, results_tmp rfl _ _ _, rfl, hfin _ ⟨_, _, hd, rfl, rfl⟩⟩
end Go.Proofs.YtcdjdnbdblpofaaDoor
