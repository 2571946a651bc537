/-
  What a state answers: Digest, Brief, Mark. Conditions: the state is one.
-/
import Derived.Test.YtcdjdnbdblpofaaDoorPL13
import Derived.Test.YtcdjdnbdblpofaaDoorPL15
import Derived.Test.YtcdjdnbdblpofaaDoorPL16
import Derived.Lib.Hide
namespace Go.Proofs.YtcdjdnbdblpofaaDoor
open Go.RowKit Go.Maps
attribute [local go_sem] leftBy leaves
set_option linter.unusedSimpArgs false
set_option linter.unusedVariables false


/-- What word.From gives. -/
def frN (s : ByteArray) : Nat := orF (byteR s) (min s.size 32)
/-- A known account that is right: its texts, words, cells. -/
structure Kok (W : World) (K : Kw) : Prop where
  sz : K.cd.size ≤ maxLen
  ba : K.ba < Q256
  len : K.cs.length = K.cn
  cw : ∀ c ∈ K.cs, c.1 < Q256 ∧ c.2 < Q256
  cc : K.cn ≤ K.cc ∧ K.cn ≤ maxLen
  mem : ∀ i c, K.cs[i]? = some c → ∃ bl o, K.cp = some ⟨bl, o, none⟩ ∧ (∀ j, j < 4 → W.cell? ⟨bl, o + i * 8 + j, none⟩ = some (.int .u64 (lb c.1 j : Nat))) ∧ (∀ j, j < 4 → W.cell? ⟨bl, o + i * 8 + (j + 4), none⟩ = some (.int .u64 (lb c.2 j : Nat)))
theorem cell_lt {W : World} {p : Addr} {v : Value} (h : W.cell? p = some v) : p.block < W.heap.size := by
  rcases Nat.lt_or_ge p.block W.heap.size with h1 | h1
  · exact h1
  · have : W.heap[p.block]? = none := Array.getElem?_eq_none h1
    simp [World.cell?, this] at h
theorem Kok.below {W W' : World} {K : Kw} (h : Kok W K) (hb : Below W.heap.size W W') : Kok W' K := by
  refine ⟨h.sz, h.ba, h.len, h.cw, h.cc, fun i c hc => ?_⟩
  obtain ⟨bl, o, h1, h2, h3⟩ := h.mem i c hc
  have hbl : bl < W.heap.size := cell_lt (h2 0 (by omega))
  exact ⟨bl, o, h1, fun j hj => (hb.cell (p := ⟨bl, _, none⟩) hbl).trans (h2 j hj), fun j hj => (hb.cell (p := ⟨bl, _, none⟩) hbl).trans (h3 j hj)⟩

def digN (K : Kw) : Nat := if K.th = false then 0 else frN K.cd
def digV (L : List Kw) (a : ByteArray) : Value := match kfind L a with | some K => .tuple #[W4 (digN K), .int .i64 0] | none => .tuple #[W4 0, .int .i64 190]

section
variable {W : World} {F : Nat → Prop} {b N : Nat} {L : List Kw} {R : List Chg}

set_option maxRecDepth 100000 in
set_option maxHeartbeats 4000000 in
theorem Digest_S (h : SRep W F b N L R) (hL : ∀ K ∈ L, K.cd.size ≤ maxLen) {a : ByteArray} (ha : okT a) :
    Calls Tryd.prog 13 #[ptr (b + 6), .string a] W fun e w' => e = .returned (digV L a) ∧ Below W.heap.size W w' := by
  cases hK : kfind L a with
  | none =>
    rw [show digV L a = .tuple #[W4 0, .int .i64 190] by unfold digV; rw [hK]]
    have cF := fun o => find_none (h.below ((Below.refl _ W).alloc (Nat.le_refl _) o)) ha hK
    rw [W4_zero]
    unfold Kn.v Kn.zero ptr at *
    dsimp only at cF
    go_enter Tryd.func13, Tryd.ntmps13
    go_wp2_with (go_at_call 34; refine (cF _).mono ?_; rintro e wa ⟨rfl, hb_wa⟩; have hc_wa := (bcell hb_wa).1; have hf_wa := (bcell hb_wa).2; have hz_wa : _ ≤ wa.heap.size := hb_wa.size; (try simp only [World.size_alloc, World.heap_drewN, World.size_setCell, heap_drew] at hc_wa hf_wa hz_wa); have hz_wa_W_0 : W.heap.size < wa.heap.size := (by omega))
    refine bodyPost_ret (by simp only [results, Tryd.results13]; go_simp; try rfl) rfl ⟨rfl, ?_⟩
    repeat (with_reducible first | exact Below.refl _ _ | assumption | refine below_drewN ?_ _ | refine Below.drew ?_ | refine Below.setCell ?_ (by first | omega | (simp; done) | (simp; omega)) _ | refine Below.alloc ?_ (by first | omega | (simp; done) | (simp; omega)) _ | refine Below.trans ?_ (Below.mono (by assumption) (by first | omega | (simp; done) | (simp; omega))))
  | some K =>
    rw [show digV L a = .tuple #[W4 (digN K), .int .i64 0] by unfold digV; rw [hK]]
    have cF := fun o => find_some (h.below ((Below.refl _ W).alloc (Nat.le_refl _) o)) ha hK
    have hs := hL K (List.mem_of_find?_eq_some hK)
    have hFr : ∀ w, Calls Tryd.prog 36 #[.string K.cd] w fun e w' => e = .returned (W4 (frN K.cd)) ∧ Below w.heap.size w w' := From_any K.cd hs
    unfold digN
    generalize frN K.cd = n at *
    clear hK h hL hs
    obtain ⟨ad, th, no, ba, rt, cd, hs, co, cp, cn, cc, cs⟩ := K
    unfold Kw.v Kw.kn Kn.v ptr at *
    dsimp only at *
    cases th with
    | false =>
      simp only [if_true, W4_zero]
      go_enter Tryd.func13, Tryd.ntmps13
      go_wp2_with (go_at_call 34; refine (cF _).mono ?_; rintro e wa ⟨rfl, hb_wa⟩; have hc_wa := (bcell hb_wa).1; have hf_wa := (bcell hb_wa).2; have hz_wa : _ ≤ wa.heap.size := hb_wa.size; (try simp only [World.size_alloc, World.heap_drewN, World.size_setCell, heap_drew] at hc_wa hf_wa hz_wa); have hz_wa_W_0 : W.heap.size < wa.heap.size := (by omega))
      refine bodyPost_ret (by simp only [results, Tryd.results13]; go_simp; try rfl) rfl ⟨rfl, ?_⟩
      repeat (with_reducible first | exact Below.refl _ _ | assumption | refine below_drewN ?_ _ | refine Below.drew ?_ | refine Below.setCell ?_ (by first | omega | (simp; done) | (simp; omega)) _ | refine Below.alloc ?_ (by first | omega | (simp; done) | (simp; omega)) _ | refine Below.trans ?_ (Below.mono (by assumption) (by first | omega | (simp; done) | (simp; omega))))
    | true =>
      simp only [Bool.true_eq_false, if_false]
      go_enter Tryd.func13, Tryd.ntmps13
      go_wp2_with (first | (go_at_call 34; refine (cF _).mono ?_; rintro e wa ⟨rfl, hb_wa⟩; have hc_wa := (bcell hb_wa).1; have hf_wa := (bcell hb_wa).2; have hz_wa : _ ≤ wa.heap.size := hb_wa.size; (try simp only [World.size_alloc, World.heap_drewN, World.size_setCell, heap_drew] at hc_wa hf_wa hz_wa); have hz_wa_W_0 : W.heap.size < wa.heap.size := (by omega); have hq : W.heap.size < wa.heap.size + 1 := (by omega)) | (go_at_call 36; refine (hFr _).mono ?_; rintro e wb ⟨rfl, hb_wb⟩; have hc_wb := (bcell hb_wb).1; have hf_wb := (bcell hb_wb).2; have hz_wb : _ ≤ wb.heap.size := hb_wb.size; (try simp only [World.size_alloc, World.heap_drewN, World.size_setCell, heap_drew] at hc_wb hf_wb hz_wb); have hz_wb_W_0 : W.heap.size < wb.heap.size := (by omega)))
      refine bodyPost_ret (by simp only [results, Tryd.results13]; go_simp; try rfl) rfl ⟨rfl, ?_⟩
      repeat (with_reducible first | exact Below.refl _ _ | assumption | refine below_drewN ?_ _ | refine Below.drew ?_ | refine Below.setCell ?_ (by first | omega | (simp; done) | (simp; omega)) _ | refine Below.alloc ?_ (by first | omega | (simp; done) | (simp; omega)) _ | refine Below.trans ?_ (Below.mono (by assumption) (by first | omega | (simp; done) | (simp; omega))))

set_option maxRecDepth 100000 in
set_option maxHeartbeats 4000000 in
theorem Mark_S (h : SRep W F b N L R) : Calls Tryd.prog 17 #[ptr (b + 6)] W fun e w' => e = .returned (.int .i64 R.length) ∧ Below W.heap.size W w' := by
  obtain ⟨un, hC, xs, hr, _⟩ := h
  obtain ⟨lg, s1, _⟩ := hC.st
  obtain ⟨g, cap, rfl⟩ : ∃ g cap, un = .slice g R.length cap := by
    rcases hr.2 with ⟨rfl, h0⟩ | ⟨g, cap, cur, rfl, _⟩
    · exact ⟨none, 0, by rw [h0]⟩
    · exact ⟨_, _, rfl⟩
  obtain ⟨_, _, _, _, _, _, _, c7, _⟩ := s1.cells
  have hlt := s1.lt
  unfold ptr
  go_enter Tryd.func17, Tryd.ntmps17
  go_wp2
  go_ret
  exact ⟨rfl, Below.refl _ _⟩

set_option maxRecDepth 100000 in
set_option maxHeartbeats 4000000 in
theorem Brief_S (h : SRep W F b N L R) {a : ByteArray} {k : Nat} (hp : okP (a, k)) :
    Calls Tryd.prog 16 #[ptr (b + 6), .string a, W4 k] W fun e w' => e = .returned (W4 ((brF R (a, k)).getD 0)) ∧ Below W.heap.size W w' := by
  obtain ⟨un, hC, _⟩ := h
  obtain ⟨lg, s1, _⟩ := hC.st
  have hl := hC.m3.look1 keyP Tryd.underlying68 zeroW (a, k) hp
  rw [show ((brF R (a, k)).map W4).getD (W4 0) = W4 ((brF R (a, k)).getD 0) by cases brF R (a, k) <;> rfl] at hl
  generalize (brF R (a, k)).getD 0 = n at *
  obtain ⟨_, _, _, c3, _⟩ := s1.cells
  have hlt := s1.lt
  clear hC
  unfold spW spV at hl
  unfold ptr
  dsimp only at hl
  go_enter Tryd.func16, Tryd.ntmps16
  go_wp2
  have kb : ((W.alloc (.cells #[.int .u64 (lb k 0 : Nat), .int .u64 (lb k 1 : Nat), .int .u64 (lb k 2 : Nat), .int .u64 (lb k 3 : Nat)] 25)).alloc (.cells #[.int .u64 0, .int .u64 0, .int .u64 0, .int .u64 0] 25)).heap[W.heap.size]? = _ := (Below.heap_alloc _ _ _ (by simp)).trans (heap_new rfl)
  have rb : ((W.alloc (.cells #[.int .u64 (lb k 0 : Nat), .int .u64 (lb k 1 : Nat), .int .u64 (lb k 2 : Nat), .int .u64 (lb k 3 : Nat)] 25)).alloc (.cells #[.int .u64 0, .int .u64 0, .int .u64 0, .int .u64 0] 25)).heap[W.heap.size + 1]? = _ := heap_new (by simp)
  have b1 : Below W.heap.size W ((W.alloc (.cells #[.int .u64 (lb k 0 : Nat), .int .u64 (lb k 1 : Nat), .int .u64 (lb k 2 : Nat), .int .u64 (lb k 3 : Nat)] 25)).alloc (.cells #[.int .u64 0, .int .u64 0, .int .u64 0, .int .u64 0] 25)) := ((Below.refl _ W).alloc (Nat.le_refl _) _).alloc (by simp) _
  have z1 : ((W.alloc (.cells #[.int .u64 (lb k 0 : Nat), .int .u64 (lb k 1 : Nat), .int .u64 (lb k 2 : Nat), .int .u64 (lb k 3 : Nat)] 25)).alloc (.cells #[.int .u64 0, .int .u64 0, .int .u64 0, .int .u64 0] 25)).heap.size = W.heap.size + 1 + 1 := by simp
  generalize (W.alloc (.cells #[.int .u64 (lb k 0 : Nat), .int .u64 (lb k 1 : Nat), .int .u64 (lb k 2 : Nat), .int .u64 (lb k 3 : Nat)] 25)).alloc (.cells #[.int .u64 0, .int .u64 0, .int .u64 0, .int .u64 0] 25) = W1 at *
  have s1' : stA W1 b lg un := (b1.block _ hlt).trans s1
  have hl1 := Lib.hid fun W' (e : W'.heap[b + 3]? = W1.heap[b + 3]?) => hl W' (e.trans (b1.block _ (by omega)))
  clear hl
  obtain ⟨_, _, _, d3, _⟩ := s1'.cells
  obtain ⟨x0, x1, x2, x3⟩ := cells4w kb
  refine wp_flowU (fun k => ([1, 1, 1, 1, 1, 1, 1, 1, 2] : List Nat).getD k 1) (stR W1 (W.heap.size + 1) (.cells #[.int .u64 0, .int .u64 0, .int .u64 0, .int .u64 0] 25) (.cells #[.int .u64 (lb n 0 : Nat), .int .u64 (lb n 1 : Nat), .int .u64 (lb n 2 : Nat), .int .u64 (lb n 3 : Nat)] 25)) (fun _ => True) (false) (⟨Fr.drew (Fr.refl _ _), rb⟩) trivial (by kernel_rfl) (by kernel_rfl) ?_
  iterate 8 ((refine flowU_readE rfl rfl (fun K hK => ?_); apply Exists.intro; apply And.intro; (focus (intro w' hR; have y0 := hR.fr.cell x0 (by omega) (by omega); have y1 := hR.fr.cell x1 (by omega) (by omega); have y2 := hR.fr.cell x2 (by omega) (by omega); have y3 := hR.fr.cell x3 (by omega) (by omega); have e3 := hR.fr.cell d3 (by omega) (by omega); have hlw := hl1.out w' (hR.fr.block _ (by omega) (by omega)); clear hR; go_simp; (try go_bits); exact rfl)); go_simp; (try go_bits); refine hK _ ?_; clear hK K))
  refine flowU_step (fun v s => v = undef ∧ s = true) (by decide) rfl ⟨undef, true, rfl, rfl⟩ (fun w' hR => ?_) (fun _ _ _ _ _ => trivial) (fun K hK v s2 hs2 => ?_)
  focus
    have hq := hR.now
    simp only [Bool.false_eq_true, if_false] at hq
    obtain ⟨q0, q1, q2, q3⟩ := cells4w hq
    have qf : ∀ j, w'.frozen? ⟨W.heap.size + 1, j, none⟩ = false := fun j => by simp [World.frozen?, hq]
    have hfr := hR.fr
    clear hR
    go_simp
    exact ⟨(((hfr.setCell (.inl rfl) _).setCell (.inl rfl) _).setCell (.inl rfl) _).setCell (.inl rfl) _, by simpa using store4 hq _ _ _ _⟩
  obtain ⟨rfl, rfl⟩ := hs2
  (go_simp; refine hK _ _ ?_; clear hK K)
  refine flowU_nil ?_
  intro w' hR
  have hq : w'.heap[W.heap.size + 1]? = some (.cells #[.int .u64 (lb n 0 : Nat), .int .u64 (lb n 1 : Nat), .int .u64 (lb n 2 : Nat), .int .u64 (lb n 3 : Nat)] 25 (0, 0)) := hR.now
  obtain ⟨q0, q1, q2, q3⟩ := cells4w hq
  have bF : Below W.heap.size W w' := b1.trans (hR.fr.toBelow (by omega) (fun k hk => by omega))
  clear hR hl1 x0 x1 x2 x3 hq
  go_wp2
  refine bodyPost_ret (by simp only [results, Tryd.results16]; go_simp; try rfl) rfl ⟨rfl, bF⟩

/-- What Origin answers, of a known account; and of an address. -/
def oriC (cs : List (Nat × Nat)) (k : Nat) : Nat × Int := match cs.find? fun c => c.1 == k with | some c => (c.2, 0) | none => (0, 190)
def oriK (K : Kw) (k : Nat) : Nat × Int := if K.th = false ∨ K.rt = emR then (0, 0) else oriC K.cs k
def oriN (L : List Kw) (a : ByteArray) (k : Nat) : Nat × Int := match kfind L a with | some K => oriK K k | none => (0, 190)
/-- What Load answers. -/
def loaN (L : List Kw) (R : List Chg) (a : ByteArray) (k : Nat) : Nat × Int := match svF R (a, k) with | some v => (v, 0) | none => oriN L a k

theorem Load_S (h : SRep W F b N L R) {a : ByteArray} {k : Nat} (hp : okP (a, k))
    (cO : ∀ W' : World, Below W.heap.size W W' → Calls Tryd.prog 15 #[ptr (b + 6), .string a, W4 k] W' fun e w' => e = .returned (.tuple #[W4 (oriN L a k).1, .int .i64 (oriN L a k).2]) ∧ Below W'.heap.size W' w') :
    Calls Tryd.prog 14 #[ptr (b + 6), .string a, W4 k] W fun e w' => e = .returned (.tuple #[W4 (loaN L R a k).1, .int .i64 (loaN L R a k).2]) ∧ Below W.heap.size W w' := by
  obtain ⟨un, hC, _⟩ := h
  obtain ⟨lg, s1, _⟩ := hC.st
  have hl := hC.m2.look2 keyP Tryd.underlying68 zeroW (a, k) hp
  cases hv : svF R (a, k) with
  | some v =>
    rw [show loaN L R a k = (v, 0) by unfold loaN; rw [hv]]
    rw [hv] at hl
    exact Load_hit s1 a _ _ _ _ _ _ _ _ hl
  | none =>
    rw [show loaN L R a k = oriN L a k by unfold loaN; rw [hv]]
    rw [hv] at hl
    have hl' := hl
    simp only [Option.map_none, Option.getD_none, Option.isSome_none, W4_zero] at hl'
    exact Load_miss s1 a _ _ _ _ _ _ _ _ _ hl' cO
end
end Go.Proofs.YtcdjdnbdblpofaaDoor
