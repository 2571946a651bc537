/-
  The walk of pharoslaw19.StateAsks. Conditions: what comes in is right; the three tables stand in their blocks.
-/
import Derived.Test.YtcdjdnbdblpofaaDoorPL23
import Derived.Test.YtcdjdnbdblpofaaDoorPL30
namespace Go.Proofs.YtcdjdnbdblpofaaDoor
open Go.RowKit Go.Maps
attribute [local go_sem] eqW guardW
set_option linter.unusedSimpArgs false
set_option linter.unusedVariables false

theorem knL_take {W : World} {a : Option Addr} {c : Nat} {L : List Kw} (h : knL W (.slice a L.length c) L) (m : Nat) : knL W (.slice a (L.take m).length c) (L.take m) := by
  obtain ⟨a2, c2, hv, h1, h2, h3⟩ := h
  obtain ⟨rfl, rfl⟩ : a = a2 ∧ c = c2 := by simpa using hv
  have hl : (L.take m).length ≤ L.length := by rw [List.length_take]; omega
  refine ⟨a, c, rfl, by omega, h2, fun i K hi => ?_⟩
  have hi2 := (List.getElem?_eq_some_iff.1 hi).1
  rw [List.getElem?_take, if_pos (by rw [List.length_take] at hi2; omega)] at hi
  exact h3 i K hi
theorem lgV_len {W : World} {v : Value} {l : List Lg} (h : lgV W v l) : ∃ a c, v = .slice a l.length c := let ⟨a, c, hv, _⟩ := h; ⟨a, c, hv⟩

set_option maxRecDepth 100000 in
set_option maxHeartbeats 32000000 in
theorem walk_asks {W : World} {sa : Option Addr} {sc : Nat} {L0 : List Kw} (hv : knL W (.slice sa L0.length sc) L0) (hok : ∀ K ∈ L0, Kok W K ∧ okT K.ad) (hW : 3 ≤ W.heap.size) (hT : KT W) (a : ByteArray) (ha : okT a) (k : Nat) (hk : k < Q256) :
    Calls Tryd.prog 3 #[.slice sa L0.length sc, .string a, W4 k] W fun e w' => e = .returned (.bool true) ∧ Below W.heap.size W w' := by
  have hv2 := knL_take hv 30
  obtain ⟨L, hLd⟩ : ∃ L, L = L0.take 30 := ⟨_, rfl⟩
  rw [← hLd] at hv2
  have hln : L.length ≤ 30 := by rw [hLd, List.length_take]; omega
  have hokL : ∀ K ∈ L, Kok W K ∧ okT K.ad := fun K hK => hok K (List.mem_of_mem_take (hLd ▸ hK))
  have hn0 : L0.length ≤ sc ∧ sc ≤ maxLen := by
    obtain ⟨_, _, h, h1, h2, _⟩ := hv
    simp only [Value.slice.injEq] at h
    obtain ⟨-, -, rfl⟩ := h
    exact ⟨h1, h2⟩
  unfold maxLen at hn0
  obtain ⟨hn1, hn2⟩ := hn0
  have hn3 : L0.length ≤ 9223372036854775807 := by omega
  have hmin : min (L0.length : Int) 30 = (L.length : Int) := by rw [hLd, List.length_take]; omega
  have hls : L.length ≤ L0.length := by rw [hLd, List.length_take]; omega
  have hls2 : L.length ≤ sc := by omega
  clear hLd hok hv
  have b0 : Below W.heap.size W (W.alloc (.cells #[.int .u64 (lb k 0 : Nat), .int .u64 (lb k 1 : Nat), .int .u64 (lb k 2 : Nat), .int .u64 (lb k 3 : Nat)] 25)) := (Below.refl _ W).alloc (Nat.le_refl _) _
  have key0 : (W.alloc (.cells #[.int .u64 (lb k 0 : Nat), .int .u64 (lb k 1 : Nat), .int .u64 (lb k 2 : Nat), .int .u64 (lb k 3 : Nat)] 25)).heap[W.heap.size]? = some (.cells #[.int .u64 (lb k 0 : Nat), .int .u64 (lb k 1 : Nat), .int .u64 (lb k 2 : Nat), .int .u64 (lb k 3 : Nat)] 25 (0, 0)) := heap_new rfl
  have z0 : W.heap.size < (W.alloc (.cells #[.int .u64 (lb k 0 : Nat), .int .u64 (lb k 1 : Nat), .int .u64 (lb k 2 : Nat), .int .u64 (lb k 3 : Nat)] 25)).heap.size := by simp
  go_enter Tryd.func3, Tryd.ntmps3
  go_wp2_with (go_at_call 9; refine (shown_any _).mono ?_; rintro e wa ⟨rfl, hb⟩)
  replace key0 := (hb.block _ z0).trans key0
  replace b0 := b0.trans (hb.mono b0.size)
  replace z0 := Nat.lt_of_lt_of_le z0 hb.size
  clear hb
  have cN := New_any (hv2.below b0) (by omega) (fun K hK => (hokL K hK).2)
  go_wp2_with (go_at_call 10; refine cN.mono ?_; rintro e w1 ⟨rfl, hb, hS⟩)
  have key := (hb.block _ z0).trans key0
  have g0 := b0.trans (hb.mono b0.size)
  have z1 := Nat.lt_of_lt_of_le z0 hb.size
  clear hb cN key0
  generalize wa.heap.size = b at *
  have hW1 := Nat.le_trans hW g0.size
  have hT1 := hT.below g0 hW
  have hL1 : ∀ K ∈ L, Kok w1 K := fun K hK => (hokL K hK).1.below g0
  have hL2 : ∀ K ∈ L, K.cd.size ≤ maxLen := fun K hK => (hL1 K hK).sz
  have hp : okP (a, k) := ⟨ha, hk⟩
  have cBal := fun w (hb : Below w1.heap.size w1 w) => Balance_S (hS.below hb) ha
  have cCod := fun w (hb : Below w1.heap.size w1 w) => Code_S (hS.below hb) (Nat.le_trans hW1 hb.size) (hT1.below hb hW1) ha
  have cDig := fun w (hb : Below w1.heap.size w1 w) => Digest_S (hS.below hb) hL2 ha
  have cLoa := fun w (hb : Below w1.heap.size w1 w) => Load_all (hS.below hb) (Nat.le_trans hW1 hb.size) (hT1.below hb hW1) (fun K hK => (hL1 K hK).below hb) hp
  have cOri := fun w (hb : Below w1.heap.size w1 w) => Origin_S (hS.below hb) (Nat.le_trans hW1 hb.size) (hT1.below hb hW1) (fun K hK => (hL1 K hK).below hb) hp
  have cBri := fun w (hb : Below w1.heap.size w1 w) => Brief_S (hS.below hb) hp
  have cMar := fun w (hb : Below w1.heap.size w1 w) => Mark_S (hS.below hb)
  have cLgs := fun w (hb : Below w1.heap.size w1 w) => Logs_S (hS.below hb) (Nat.zero_le _)
  have hnum : ∃ (A : Nat) (E : Int) (cs : ByteArray) (ce : Int) (dn : Nat) (o : Nat) (oe : Int), balN L [] a = A ∧ kerr L a = E ∧ codV L a = .tuple #[.string cs, .int .i64 ce] ∧ digV L a = .tuple #[W4 dn, .int .i64 E] ∧ oriN L a k = (o, oe) ∧ (E = 0 ∨ E = 190 ∧ ce = 190 ∧ oe = 190) := by
    unfold kerr codV digV oriN
    cases kfind L a with
    | none => exact ⟨_, _, _, _, _, _, _, rfl, rfl, rfl, rfl, rfl, .inr ⟨rfl, rfl, rfl⟩⟩
    | some K => exact ⟨_, _, _, _, _, _, _, rfl, rfl, rfl, rfl, rfl, .inl rfl⟩
  obtain ⟨A, E, cs, ce, dn, o, oe, e1, e2, e3, e4, e5, hE⟩ := hnum
  have e6 : loaN L [] a k = (o, oe) := e5
  rw [e1, e2] at cBal
  rw [e3] at cCod
  rw [e4] at cDig
  rw [e5] at cOri
  rw [e6] at cLoa
  have e7 : (brF [] (a, k)).getD 0 = 0 := rfl
  rw [e7, W4_zero] at cBri
  dsimp only [List.length_nil, lgF] at cMar cLgs cLoa cOri
  clear e1 e2 e3 e4 e5 e6 e7 hS hW1 hT1 hL1 hL2 hp hokL hv2 b0 hW hT z0
  unfold ptr at *
  have g1 := Below.refl w1.heap.size w1
  obtain ⟨y0, y1, y2, y3⟩ := cells4w key
  go_wp2_with (go_at_call 11; refine (cBal _ g1).mono ?_; rintro e v0 ⟨rfl, hb⟩; replace key := (hb.block _ z1).trans key; replace z1 := Nat.lt_of_lt_of_le z1 hb.size; clear y0 y1 y2 y3; obtain ⟨y0, y1, y2, y3⟩ := cells4w key)
  clear y0 y1 y2 y3
  have g2 : Below w1.heap.size w1 (v0.alloc (.cells #[.int .u64 (lb A 0 : Nat), .int .u64 (lb A 1 : Nat), .int .u64 (lb A 2 : Nat), .int .u64 (lb A 3 : Nat)] 25)) := (g1.trans (hb.mono g1.size)).alloc (Nat.le_trans g1.size hb.size) _
  replace key : (v0.alloc (.cells #[.int .u64 (lb A 0 : Nat), .int .u64 (lb A 1 : Nat), .int .u64 (lb A 2 : Nat), .int .u64 (lb A 3 : Nat)] 25)).heap[W.heap.size]? = _ := (Below.heap_alloc _ _ _ z1).trans key
  replace z1 : W.heap.size < (v0.alloc (.cells #[.int .u64 (lb A 0 : Nat), .int .u64 (lb A 1 : Nat), .int .u64 (lb A 2 : Nat), .int .u64 (lb A 3 : Nat)] 25)).heap.size := Nat.lt_of_lt_of_le z1 (by simp)
  have p9 : (v0.alloc (.cells #[.int .u64 (lb A 0 : Nat), .int .u64 (lb A 1 : Nat), .int .u64 (lb A 2 : Nat), .int .u64 (lb A 3 : Nat)] 25)).heap[v0.heap.size]? = some (.cells #[.int .u64 (lb A 0 : Nat), .int .u64 (lb A 1 : Nat), .int .u64 (lb A 2 : Nat), .int .u64 (lb A 3 : Nat)] 25 (0, 0)) := heap_new rfl
  have zp9 : v0.heap.size < (v0.alloc (.cells #[.int .u64 (lb A 0 : Nat), .int .u64 (lb A 1 : Nat), .int .u64 (lb A 2 : Nat), .int .u64 (lb A 3 : Nat)] 25)).heap.size := by simp
  clear g1 hb
  generalize hgen0 : (v0.alloc (.cells #[.int .u64 (lb A 0 : Nat), .int .u64 (lb A 1 : Nat), .int .u64 (lb A 2 : Nat), .int .u64 (lb A 3 : Nat)] 25)) = u0 at *
  clear hgen0
  generalize hgq0 : v0.heap.size = qp9 at *
  clear hgq0 v0
  have g1 := g2
  clear g2
  obtain ⟨y0, y1, y2, y3⟩ := cells4w key
  go_wp2_with (go_at_call 12; refine (cCod _ g1).mono ?_; rintro e v1 ⟨rfl, hb⟩; replace key := (hb.block _ z1).trans key; replace z1 := Nat.lt_of_lt_of_le z1 hb.size; replace p9 := (hb.block _ zp9).trans p9; replace zp9 := Nat.lt_of_lt_of_le zp9 hb.size; clear y0 y1 y2 y3; obtain ⟨y0, y1, y2, y3⟩ := cells4w key)
  clear y0 y1 y2 y3
  have g2 := g1.trans (hb.mono g1.size)
  clear g1 hb
  have g1 := g2
  clear g2
  obtain ⟨y0, y1, y2, y3⟩ := cells4w key
  go_wp2_with (go_at_call 13; refine (cDig _ g1).mono ?_; rintro e v2 ⟨rfl, hb⟩; replace key := (hb.block _ z1).trans key; replace z1 := Nat.lt_of_lt_of_le z1 hb.size; replace p9 := (hb.block _ zp9).trans p9; replace zp9 := Nat.lt_of_lt_of_le zp9 hb.size; clear y0 y1 y2 y3; obtain ⟨y0, y1, y2, y3⟩ := cells4w key)
  clear y0 y1 y2 y3
  have g2 : Below w1.heap.size w1 (v2.alloc (.cells #[.int .u64 (lb dn 0 : Nat), .int .u64 (lb dn 1 : Nat), .int .u64 (lb dn 2 : Nat), .int .u64 (lb dn 3 : Nat)] 25)) := (g1.trans (hb.mono g1.size)).alloc (Nat.le_trans g1.size hb.size) _
  replace key : (v2.alloc (.cells #[.int .u64 (lb dn 0 : Nat), .int .u64 (lb dn 1 : Nat), .int .u64 (lb dn 2 : Nat), .int .u64 (lb dn 3 : Nat)] 25)).heap[W.heap.size]? = _ := (Below.heap_alloc _ _ _ z1).trans key
  replace z1 : W.heap.size < (v2.alloc (.cells #[.int .u64 (lb dn 0 : Nat), .int .u64 (lb dn 1 : Nat), .int .u64 (lb dn 2 : Nat), .int .u64 (lb dn 3 : Nat)] 25)).heap.size := Nat.lt_of_lt_of_le z1 (by simp)
  replace p9 : (v2.alloc (.cells #[.int .u64 (lb dn 0 : Nat), .int .u64 (lb dn 1 : Nat), .int .u64 (lb dn 2 : Nat), .int .u64 (lb dn 3 : Nat)] 25)).heap[qp9]? = _ := (Below.heap_alloc _ _ _ zp9).trans p9
  replace zp9 : qp9 < (v2.alloc (.cells #[.int .u64 (lb dn 0 : Nat), .int .u64 (lb dn 1 : Nat), .int .u64 (lb dn 2 : Nat), .int .u64 (lb dn 3 : Nat)] 25)).heap.size := Nat.lt_of_lt_of_le zp9 (by simp)
  have p13 : (v2.alloc (.cells #[.int .u64 (lb dn 0 : Nat), .int .u64 (lb dn 1 : Nat), .int .u64 (lb dn 2 : Nat), .int .u64 (lb dn 3 : Nat)] 25)).heap[v2.heap.size]? = some (.cells #[.int .u64 (lb dn 0 : Nat), .int .u64 (lb dn 1 : Nat), .int .u64 (lb dn 2 : Nat), .int .u64 (lb dn 3 : Nat)] 25 (0, 0)) := heap_new rfl
  have zp13 : v2.heap.size < (v2.alloc (.cells #[.int .u64 (lb dn 0 : Nat), .int .u64 (lb dn 1 : Nat), .int .u64 (lb dn 2 : Nat), .int .u64 (lb dn 3 : Nat)] 25)).heap.size := by simp
  clear g1 hb
  generalize hgen2 : (v2.alloc (.cells #[.int .u64 (lb dn 0 : Nat), .int .u64 (lb dn 1 : Nat), .int .u64 (lb dn 2 : Nat), .int .u64 (lb dn 3 : Nat)] 25)) = u2 at *
  clear hgen2
  generalize hgq2 : v2.heap.size = qp13 at *
  clear hgq2 v2
  have g1 := g2
  clear g2
  obtain ⟨y0, y1, y2, y3⟩ := cells4w key
  go_wp2_with (go_at_call 14; refine (cLoa _ g1).mono ?_; rintro e v3 ⟨rfl, hb⟩; replace key := (hb.block _ z1).trans key; replace z1 := Nat.lt_of_lt_of_le z1 hb.size; replace p9 := (hb.block _ zp9).trans p9; replace zp9 := Nat.lt_of_lt_of_le zp9 hb.size; replace p13 := (hb.block _ zp13).trans p13; replace zp13 := Nat.lt_of_lt_of_le zp13 hb.size; clear y0 y1 y2 y3; obtain ⟨y0, y1, y2, y3⟩ := cells4w key)
  clear y0 y1 y2 y3
  have g2 : Below w1.heap.size w1 (v3.alloc (.cells #[.int .u64 (lb o 0 : Nat), .int .u64 (lb o 1 : Nat), .int .u64 (lb o 2 : Nat), .int .u64 (lb o 3 : Nat)] 25)) := (g1.trans (hb.mono g1.size)).alloc (Nat.le_trans g1.size hb.size) _
  replace key : (v3.alloc (.cells #[.int .u64 (lb o 0 : Nat), .int .u64 (lb o 1 : Nat), .int .u64 (lb o 2 : Nat), .int .u64 (lb o 3 : Nat)] 25)).heap[W.heap.size]? = _ := (Below.heap_alloc _ _ _ z1).trans key
  replace z1 : W.heap.size < (v3.alloc (.cells #[.int .u64 (lb o 0 : Nat), .int .u64 (lb o 1 : Nat), .int .u64 (lb o 2 : Nat), .int .u64 (lb o 3 : Nat)] 25)).heap.size := Nat.lt_of_lt_of_le z1 (by simp)
  replace p9 : (v3.alloc (.cells #[.int .u64 (lb o 0 : Nat), .int .u64 (lb o 1 : Nat), .int .u64 (lb o 2 : Nat), .int .u64 (lb o 3 : Nat)] 25)).heap[qp9]? = _ := (Below.heap_alloc _ _ _ zp9).trans p9
  replace zp9 : qp9 < (v3.alloc (.cells #[.int .u64 (lb o 0 : Nat), .int .u64 (lb o 1 : Nat), .int .u64 (lb o 2 : Nat), .int .u64 (lb o 3 : Nat)] 25)).heap.size := Nat.lt_of_lt_of_le zp9 (by simp)
  replace p13 : (v3.alloc (.cells #[.int .u64 (lb o 0 : Nat), .int .u64 (lb o 1 : Nat), .int .u64 (lb o 2 : Nat), .int .u64 (lb o 3 : Nat)] 25)).heap[qp13]? = _ := (Below.heap_alloc _ _ _ zp13).trans p13
  replace zp13 : qp13 < (v3.alloc (.cells #[.int .u64 (lb o 0 : Nat), .int .u64 (lb o 1 : Nat), .int .u64 (lb o 2 : Nat), .int .u64 (lb o 3 : Nat)] 25)).heap.size := Nat.lt_of_lt_of_le zp13 (by simp)
  have p15 : (v3.alloc (.cells #[.int .u64 (lb o 0 : Nat), .int .u64 (lb o 1 : Nat), .int .u64 (lb o 2 : Nat), .int .u64 (lb o 3 : Nat)] 25)).heap[v3.heap.size]? = some (.cells #[.int .u64 (lb o 0 : Nat), .int .u64 (lb o 1 : Nat), .int .u64 (lb o 2 : Nat), .int .u64 (lb o 3 : Nat)] 25 (0, 0)) := heap_new rfl
  have zp15 : v3.heap.size < (v3.alloc (.cells #[.int .u64 (lb o 0 : Nat), .int .u64 (lb o 1 : Nat), .int .u64 (lb o 2 : Nat), .int .u64 (lb o 3 : Nat)] 25)).heap.size := by simp
  clear g1 hb
  generalize hgen3 : (v3.alloc (.cells #[.int .u64 (lb o 0 : Nat), .int .u64 (lb o 1 : Nat), .int .u64 (lb o 2 : Nat), .int .u64 (lb o 3 : Nat)] 25)) = u3 at *
  clear hgen3
  generalize hgq3 : v3.heap.size = qp15 at *
  clear hgq3 v3
  have g1 := g2
  clear g2
  obtain ⟨y0, y1, y2, y3⟩ := cells4w key
  go_wp2_with (go_at_call 15; refine (cOri _ g1).mono ?_; rintro e v4 ⟨rfl, hb⟩; replace key := (hb.block _ z1).trans key; replace z1 := Nat.lt_of_lt_of_le z1 hb.size; replace p9 := (hb.block _ zp9).trans p9; replace zp9 := Nat.lt_of_lt_of_le zp9 hb.size; replace p13 := (hb.block _ zp13).trans p13; replace zp13 := Nat.lt_of_lt_of_le zp13 hb.size; replace p15 := (hb.block _ zp15).trans p15; replace zp15 := Nat.lt_of_lt_of_le zp15 hb.size; clear y0 y1 y2 y3; obtain ⟨y0, y1, y2, y3⟩ := cells4w key)
  clear y0 y1 y2 y3
  have g2 : Below w1.heap.size w1 (v4.alloc (.cells #[.int .u64 (lb o 0 : Nat), .int .u64 (lb o 1 : Nat), .int .u64 (lb o 2 : Nat), .int .u64 (lb o 3 : Nat)] 25)) := (g1.trans (hb.mono g1.size)).alloc (Nat.le_trans g1.size hb.size) _
  replace key : (v4.alloc (.cells #[.int .u64 (lb o 0 : Nat), .int .u64 (lb o 1 : Nat), .int .u64 (lb o 2 : Nat), .int .u64 (lb o 3 : Nat)] 25)).heap[W.heap.size]? = _ := (Below.heap_alloc _ _ _ z1).trans key
  replace z1 : W.heap.size < (v4.alloc (.cells #[.int .u64 (lb o 0 : Nat), .int .u64 (lb o 1 : Nat), .int .u64 (lb o 2 : Nat), .int .u64 (lb o 3 : Nat)] 25)).heap.size := Nat.lt_of_lt_of_le z1 (by simp)
  replace p9 : (v4.alloc (.cells #[.int .u64 (lb o 0 : Nat), .int .u64 (lb o 1 : Nat), .int .u64 (lb o 2 : Nat), .int .u64 (lb o 3 : Nat)] 25)).heap[qp9]? = _ := (Below.heap_alloc _ _ _ zp9).trans p9
  replace zp9 : qp9 < (v4.alloc (.cells #[.int .u64 (lb o 0 : Nat), .int .u64 (lb o 1 : Nat), .int .u64 (lb o 2 : Nat), .int .u64 (lb o 3 : Nat)] 25)).heap.size := Nat.lt_of_lt_of_le zp9 (by simp)
  replace p13 : (v4.alloc (.cells #[.int .u64 (lb o 0 : Nat), .int .u64 (lb o 1 : Nat), .int .u64 (lb o 2 : Nat), .int .u64 (lb o 3 : Nat)] 25)).heap[qp13]? = _ := (Below.heap_alloc _ _ _ zp13).trans p13
  replace zp13 : qp13 < (v4.alloc (.cells #[.int .u64 (lb o 0 : Nat), .int .u64 (lb o 1 : Nat), .int .u64 (lb o 2 : Nat), .int .u64 (lb o 3 : Nat)] 25)).heap.size := Nat.lt_of_lt_of_le zp13 (by simp)
  replace p15 : (v4.alloc (.cells #[.int .u64 (lb o 0 : Nat), .int .u64 (lb o 1 : Nat), .int .u64 (lb o 2 : Nat), .int .u64 (lb o 3 : Nat)] 25)).heap[qp15]? = _ := (Below.heap_alloc _ _ _ zp15).trans p15
  replace zp15 : qp15 < (v4.alloc (.cells #[.int .u64 (lb o 0 : Nat), .int .u64 (lb o 1 : Nat), .int .u64 (lb o 2 : Nat), .int .u64 (lb o 3 : Nat)] 25)).heap.size := Nat.lt_of_lt_of_le zp15 (by simp)
  have p17 : (v4.alloc (.cells #[.int .u64 (lb o 0 : Nat), .int .u64 (lb o 1 : Nat), .int .u64 (lb o 2 : Nat), .int .u64 (lb o 3 : Nat)] 25)).heap[v4.heap.size]? = some (.cells #[.int .u64 (lb o 0 : Nat), .int .u64 (lb o 1 : Nat), .int .u64 (lb o 2 : Nat), .int .u64 (lb o 3 : Nat)] 25 (0, 0)) := heap_new rfl
  have zp17 : v4.heap.size < (v4.alloc (.cells #[.int .u64 (lb o 0 : Nat), .int .u64 (lb o 1 : Nat), .int .u64 (lb o 2 : Nat), .int .u64 (lb o 3 : Nat)] 25)).heap.size := by simp
  clear g1 hb
  generalize hgen4 : (v4.alloc (.cells #[.int .u64 (lb o 0 : Nat), .int .u64 (lb o 1 : Nat), .int .u64 (lb o 2 : Nat), .int .u64 (lb o 3 : Nat)] 25)) = u4 at *
  clear hgen4
  generalize hgq4 : v4.heap.size = qp17 at *
  clear hgq4 v4
  have g1 := g2
  clear g2
  obtain ⟨y0, y1, y2, y3⟩ := cells4w key
  go_wp2_with (go_at_call 16; refine (cBri _ g1).mono ?_; rintro e v5 ⟨rfl, hb⟩; replace key := (hb.block _ z1).trans key; replace z1 := Nat.lt_of_lt_of_le z1 hb.size; replace p9 := (hb.block _ zp9).trans p9; replace zp9 := Nat.lt_of_lt_of_le zp9 hb.size; replace p13 := (hb.block _ zp13).trans p13; replace zp13 := Nat.lt_of_lt_of_le zp13 hb.size; replace p15 := (hb.block _ zp15).trans p15; replace zp15 := Nat.lt_of_lt_of_le zp15 hb.size; replace p17 := (hb.block _ zp17).trans p17; replace zp17 := Nat.lt_of_lt_of_le zp17 hb.size; clear y0 y1 y2 y3; obtain ⟨y0, y1, y2, y3⟩ := cells4w key)
  clear y0 y1 y2 y3
  have g2 : Below w1.heap.size w1 (v5.alloc (.cells #[.int .u64 0, .int .u64 0, .int .u64 0, .int .u64 0] 25)) := (g1.trans (hb.mono g1.size)).alloc (Nat.le_trans g1.size hb.size) _
  replace key : (v5.alloc (.cells #[.int .u64 0, .int .u64 0, .int .u64 0, .int .u64 0] 25)).heap[W.heap.size]? = _ := (Below.heap_alloc _ _ _ z1).trans key
  replace z1 : W.heap.size < (v5.alloc (.cells #[.int .u64 0, .int .u64 0, .int .u64 0, .int .u64 0] 25)).heap.size := Nat.lt_of_lt_of_le z1 (by simp)
  replace p9 : (v5.alloc (.cells #[.int .u64 0, .int .u64 0, .int .u64 0, .int .u64 0] 25)).heap[qp9]? = _ := (Below.heap_alloc _ _ _ zp9).trans p9
  replace zp9 : qp9 < (v5.alloc (.cells #[.int .u64 0, .int .u64 0, .int .u64 0, .int .u64 0] 25)).heap.size := Nat.lt_of_lt_of_le zp9 (by simp)
  replace p13 : (v5.alloc (.cells #[.int .u64 0, .int .u64 0, .int .u64 0, .int .u64 0] 25)).heap[qp13]? = _ := (Below.heap_alloc _ _ _ zp13).trans p13
  replace zp13 : qp13 < (v5.alloc (.cells #[.int .u64 0, .int .u64 0, .int .u64 0, .int .u64 0] 25)).heap.size := Nat.lt_of_lt_of_le zp13 (by simp)
  replace p15 : (v5.alloc (.cells #[.int .u64 0, .int .u64 0, .int .u64 0, .int .u64 0] 25)).heap[qp15]? = _ := (Below.heap_alloc _ _ _ zp15).trans p15
  replace zp15 : qp15 < (v5.alloc (.cells #[.int .u64 0, .int .u64 0, .int .u64 0, .int .u64 0] 25)).heap.size := Nat.lt_of_lt_of_le zp15 (by simp)
  replace p17 : (v5.alloc (.cells #[.int .u64 0, .int .u64 0, .int .u64 0, .int .u64 0] 25)).heap[qp17]? = _ := (Below.heap_alloc _ _ _ zp17).trans p17
  replace zp17 : qp17 < (v5.alloc (.cells #[.int .u64 0, .int .u64 0, .int .u64 0, .int .u64 0] 25)).heap.size := Nat.lt_of_lt_of_le zp17 (by simp)
  have p19 : (v5.alloc (.cells #[.int .u64 0, .int .u64 0, .int .u64 0, .int .u64 0] 25)).heap[v5.heap.size]? = some (.cells #[.int .u64 0, .int .u64 0, .int .u64 0, .int .u64 0] 25 (0, 0)) := heap_new rfl
  have zp19 : v5.heap.size < (v5.alloc (.cells #[.int .u64 0, .int .u64 0, .int .u64 0, .int .u64 0] 25)).heap.size := by simp
  clear g1 hb
  generalize hgen5 : (v5.alloc (.cells #[.int .u64 0, .int .u64 0, .int .u64 0, .int .u64 0] 25)) = u5 at *
  clear hgen5
  generalize hgq5 : v5.heap.size = qp19 at *
  clear hgq5 v5
  have g1 := g2
  clear g2
  obtain ⟨y0, y1, y2, y3⟩ := cells4w key
  go_wp2_with (go_at_call 17; refine (cMar _ g1).mono ?_; rintro e v6 ⟨rfl, hb⟩; replace key := (hb.block _ z1).trans key; replace z1 := Nat.lt_of_lt_of_le z1 hb.size; replace p9 := (hb.block _ zp9).trans p9; replace zp9 := Nat.lt_of_lt_of_le zp9 hb.size; replace p13 := (hb.block _ zp13).trans p13; replace zp13 := Nat.lt_of_lt_of_le zp13 hb.size; replace p15 := (hb.block _ zp15).trans p15; replace zp15 := Nat.lt_of_lt_of_le zp15 hb.size; replace p17 := (hb.block _ zp17).trans p17; replace zp17 := Nat.lt_of_lt_of_le zp17 hb.size; replace p19 := (hb.block _ zp19).trans p19; replace zp19 := Nat.lt_of_lt_of_le zp19 hb.size; clear y0 y1 y2 y3; obtain ⟨y0, y1, y2, y3⟩ := cells4w key)
  clear y0 y1 y2 y3
  have g2 := g1.trans (hb.mono g1.size)
  clear g1 hb
  have g1 := g2
  clear g2
  obtain ⟨y0, y1, y2, y3⟩ := cells4w key
  go_wp2_with (go_at_call 18; refine (cLgs _ g1).mono ?_; rintro e v7 ⟨lv, rfl, hlv, hb⟩; obtain ⟨la, lc, rfl⟩ := lgV_len hlv; clear hlv; replace key := (hb.block _ z1).trans key; replace z1 := Nat.lt_of_lt_of_le z1 hb.size; replace p9 := (hb.block _ zp9).trans p9; replace zp9 := Nat.lt_of_lt_of_le zp9 hb.size; replace p13 := (hb.block _ zp13).trans p13; replace zp13 := Nat.lt_of_lt_of_le zp13 hb.size; replace p15 := (hb.block _ zp15).trans p15; replace zp15 := Nat.lt_of_lt_of_le zp15 hb.size; replace p17 := (hb.block _ zp17).trans p17; replace zp17 := Nat.lt_of_lt_of_le zp17 hb.size; replace p19 := (hb.block _ zp19).trans p19; replace zp19 := Nat.lt_of_lt_of_le zp19 hb.size; clear y0 y1 y2 y3; obtain ⟨y0, y1, y2, y3⟩ := cells4w key; obtain ⟨p15_0, p15_1, p15_2, p15_3⟩ := cells4w p15; obtain ⟨p17_0, p17_1, p17_2, p17_3⟩ := cells4w p17; obtain ⟨p19_0, p19_1, p19_2, p19_3⟩ := cells4w p19)
  clear y0 y1 y2 y3
  clear p15_0 p15_1 p15_2 p15_3
  clear p17_0 p17_1 p17_2 p17_3
  clear p19_0 p19_1 p19_2 p19_3
  have g2 := g1.trans (hb.mono g1.size)
  clear g1 hb
  have g1 := g2
  clear g2
  obtain ⟨y0, y1, y2, y3⟩ := cells4w key
  go_wp2_with (go_at_call 11; refine (cBal _ g1).mono ?_; rintro e v8 ⟨rfl, hb⟩; replace key := (hb.block _ z1).trans key; replace z1 := Nat.lt_of_lt_of_le z1 hb.size; replace p9 := (hb.block _ zp9).trans p9; replace zp9 := Nat.lt_of_lt_of_le zp9 hb.size; replace p13 := (hb.block _ zp13).trans p13; replace zp13 := Nat.lt_of_lt_of_le zp13 hb.size; replace p15 := (hb.block _ zp15).trans p15; replace zp15 := Nat.lt_of_lt_of_le zp15 hb.size; replace p17 := (hb.block _ zp17).trans p17; replace zp17 := Nat.lt_of_lt_of_le zp17 hb.size; replace p19 := (hb.block _ zp19).trans p19; replace zp19 := Nat.lt_of_lt_of_le zp19 hb.size; clear y0 y1 y2 y3; obtain ⟨y0, y1, y2, y3⟩ := cells4w key)
  clear y0 y1 y2 y3
  have g2 : Below w1.heap.size w1 (v8.alloc (.cells #[.int .u64 (lb A 0 : Nat), .int .u64 (lb A 1 : Nat), .int .u64 (lb A 2 : Nat), .int .u64 (lb A 3 : Nat)] 25)) := (g1.trans (hb.mono g1.size)).alloc (Nat.le_trans g1.size hb.size) _
  replace key : (v8.alloc (.cells #[.int .u64 (lb A 0 : Nat), .int .u64 (lb A 1 : Nat), .int .u64 (lb A 2 : Nat), .int .u64 (lb A 3 : Nat)] 25)).heap[W.heap.size]? = _ := (Below.heap_alloc _ _ _ z1).trans key
  replace z1 : W.heap.size < (v8.alloc (.cells #[.int .u64 (lb A 0 : Nat), .int .u64 (lb A 1 : Nat), .int .u64 (lb A 2 : Nat), .int .u64 (lb A 3 : Nat)] 25)).heap.size := Nat.lt_of_lt_of_le z1 (by simp)
  replace p9 : (v8.alloc (.cells #[.int .u64 (lb A 0 : Nat), .int .u64 (lb A 1 : Nat), .int .u64 (lb A 2 : Nat), .int .u64 (lb A 3 : Nat)] 25)).heap[qp9]? = _ := (Below.heap_alloc _ _ _ zp9).trans p9
  replace zp9 : qp9 < (v8.alloc (.cells #[.int .u64 (lb A 0 : Nat), .int .u64 (lb A 1 : Nat), .int .u64 (lb A 2 : Nat), .int .u64 (lb A 3 : Nat)] 25)).heap.size := Nat.lt_of_lt_of_le zp9 (by simp)
  replace p13 : (v8.alloc (.cells #[.int .u64 (lb A 0 : Nat), .int .u64 (lb A 1 : Nat), .int .u64 (lb A 2 : Nat), .int .u64 (lb A 3 : Nat)] 25)).heap[qp13]? = _ := (Below.heap_alloc _ _ _ zp13).trans p13
  replace zp13 : qp13 < (v8.alloc (.cells #[.int .u64 (lb A 0 : Nat), .int .u64 (lb A 1 : Nat), .int .u64 (lb A 2 : Nat), .int .u64 (lb A 3 : Nat)] 25)).heap.size := Nat.lt_of_lt_of_le zp13 (by simp)
  replace p15 : (v8.alloc (.cells #[.int .u64 (lb A 0 : Nat), .int .u64 (lb A 1 : Nat), .int .u64 (lb A 2 : Nat), .int .u64 (lb A 3 : Nat)] 25)).heap[qp15]? = _ := (Below.heap_alloc _ _ _ zp15).trans p15
  replace zp15 : qp15 < (v8.alloc (.cells #[.int .u64 (lb A 0 : Nat), .int .u64 (lb A 1 : Nat), .int .u64 (lb A 2 : Nat), .int .u64 (lb A 3 : Nat)] 25)).heap.size := Nat.lt_of_lt_of_le zp15 (by simp)
  replace p17 : (v8.alloc (.cells #[.int .u64 (lb A 0 : Nat), .int .u64 (lb A 1 : Nat), .int .u64 (lb A 2 : Nat), .int .u64 (lb A 3 : Nat)] 25)).heap[qp17]? = _ := (Below.heap_alloc _ _ _ zp17).trans p17
  replace zp17 : qp17 < (v8.alloc (.cells #[.int .u64 (lb A 0 : Nat), .int .u64 (lb A 1 : Nat), .int .u64 (lb A 2 : Nat), .int .u64 (lb A 3 : Nat)] 25)).heap.size := Nat.lt_of_lt_of_le zp17 (by simp)
  replace p19 : (v8.alloc (.cells #[.int .u64 (lb A 0 : Nat), .int .u64 (lb A 1 : Nat), .int .u64 (lb A 2 : Nat), .int .u64 (lb A 3 : Nat)] 25)).heap[qp19]? = _ := (Below.heap_alloc _ _ _ zp19).trans p19
  replace zp19 : qp19 < (v8.alloc (.cells #[.int .u64 (lb A 0 : Nat), .int .u64 (lb A 1 : Nat), .int .u64 (lb A 2 : Nat), .int .u64 (lb A 3 : Nat)] 25)).heap.size := Nat.lt_of_lt_of_le zp19 (by simp)
  have p20 : (v8.alloc (.cells #[.int .u64 (lb A 0 : Nat), .int .u64 (lb A 1 : Nat), .int .u64 (lb A 2 : Nat), .int .u64 (lb A 3 : Nat)] 25)).heap[v8.heap.size]? = some (.cells #[.int .u64 (lb A 0 : Nat), .int .u64 (lb A 1 : Nat), .int .u64 (lb A 2 : Nat), .int .u64 (lb A 3 : Nat)] 25 (0, 0)) := heap_new rfl
  have zp20 : v8.heap.size < (v8.alloc (.cells #[.int .u64 (lb A 0 : Nat), .int .u64 (lb A 1 : Nat), .int .u64 (lb A 2 : Nat), .int .u64 (lb A 3 : Nat)] 25)).heap.size := by simp
  clear g1 hb
  generalize hgen8 : (v8.alloc (.cells #[.int .u64 (lb A 0 : Nat), .int .u64 (lb A 1 : Nat), .int .u64 (lb A 2 : Nat), .int .u64 (lb A 3 : Nat)] 25)) = u8 at *
  clear hgen8
  generalize hgq8 : v8.heap.size = qp20 at *
  clear hgq8 v8
  have g1 := g2
  clear g2
  obtain ⟨y0, y1, y2, y3⟩ := cells4w key
  go_wp2_with (go_at_call 12; refine (cCod _ g1).mono ?_; rintro e v9 ⟨rfl, hb⟩; replace key := (hb.block _ z1).trans key; replace z1 := Nat.lt_of_lt_of_le z1 hb.size; replace p9 := (hb.block _ zp9).trans p9; replace zp9 := Nat.lt_of_lt_of_le zp9 hb.size; replace p13 := (hb.block _ zp13).trans p13; replace zp13 := Nat.lt_of_lt_of_le zp13 hb.size; replace p15 := (hb.block _ zp15).trans p15; replace zp15 := Nat.lt_of_lt_of_le zp15 hb.size; replace p17 := (hb.block _ zp17).trans p17; replace zp17 := Nat.lt_of_lt_of_le zp17 hb.size; replace p19 := (hb.block _ zp19).trans p19; replace zp19 := Nat.lt_of_lt_of_le zp19 hb.size; replace p20 := (hb.block _ zp20).trans p20; replace zp20 := Nat.lt_of_lt_of_le zp20 hb.size; clear y0 y1 y2 y3; obtain ⟨y0, y1, y2, y3⟩ := cells4w key)
  clear y0 y1 y2 y3
  have g2 := g1.trans (hb.mono g1.size)
  clear g1 hb
  have g1 := g2
  clear g2
  obtain ⟨y0, y1, y2, y3⟩ := cells4w key
  go_wp2_with (go_at_call 13; refine (cDig _ g1).mono ?_; rintro e v10 ⟨rfl, hb⟩; replace key := (hb.block _ z1).trans key; replace z1 := Nat.lt_of_lt_of_le z1 hb.size; replace p9 := (hb.block _ zp9).trans p9; replace zp9 := Nat.lt_of_lt_of_le zp9 hb.size; replace p13 := (hb.block _ zp13).trans p13; replace zp13 := Nat.lt_of_lt_of_le zp13 hb.size; replace p15 := (hb.block _ zp15).trans p15; replace zp15 := Nat.lt_of_lt_of_le zp15 hb.size; replace p17 := (hb.block _ zp17).trans p17; replace zp17 := Nat.lt_of_lt_of_le zp17 hb.size; replace p19 := (hb.block _ zp19).trans p19; replace zp19 := Nat.lt_of_lt_of_le zp19 hb.size; replace p20 := (hb.block _ zp20).trans p20; replace zp20 := Nat.lt_of_lt_of_le zp20 hb.size; clear y0 y1 y2 y3; obtain ⟨y0, y1, y2, y3⟩ := cells4w key)
  clear y0 y1 y2 y3
  have g2 : Below w1.heap.size w1 (v10.alloc (.cells #[.int .u64 (lb dn 0 : Nat), .int .u64 (lb dn 1 : Nat), .int .u64 (lb dn 2 : Nat), .int .u64 (lb dn 3 : Nat)] 25)) := (g1.trans (hb.mono g1.size)).alloc (Nat.le_trans g1.size hb.size) _
  replace key : (v10.alloc (.cells #[.int .u64 (lb dn 0 : Nat), .int .u64 (lb dn 1 : Nat), .int .u64 (lb dn 2 : Nat), .int .u64 (lb dn 3 : Nat)] 25)).heap[W.heap.size]? = _ := (Below.heap_alloc _ _ _ z1).trans key
  replace z1 : W.heap.size < (v10.alloc (.cells #[.int .u64 (lb dn 0 : Nat), .int .u64 (lb dn 1 : Nat), .int .u64 (lb dn 2 : Nat), .int .u64 (lb dn 3 : Nat)] 25)).heap.size := Nat.lt_of_lt_of_le z1 (by simp)
  replace p9 : (v10.alloc (.cells #[.int .u64 (lb dn 0 : Nat), .int .u64 (lb dn 1 : Nat), .int .u64 (lb dn 2 : Nat), .int .u64 (lb dn 3 : Nat)] 25)).heap[qp9]? = _ := (Below.heap_alloc _ _ _ zp9).trans p9
  replace zp9 : qp9 < (v10.alloc (.cells #[.int .u64 (lb dn 0 : Nat), .int .u64 (lb dn 1 : Nat), .int .u64 (lb dn 2 : Nat), .int .u64 (lb dn 3 : Nat)] 25)).heap.size := Nat.lt_of_lt_of_le zp9 (by simp)
  replace p13 : (v10.alloc (.cells #[.int .u64 (lb dn 0 : Nat), .int .u64 (lb dn 1 : Nat), .int .u64 (lb dn 2 : Nat), .int .u64 (lb dn 3 : Nat)] 25)).heap[qp13]? = _ := (Below.heap_alloc _ _ _ zp13).trans p13
  replace zp13 : qp13 < (v10.alloc (.cells #[.int .u64 (lb dn 0 : Nat), .int .u64 (lb dn 1 : Nat), .int .u64 (lb dn 2 : Nat), .int .u64 (lb dn 3 : Nat)] 25)).heap.size := Nat.lt_of_lt_of_le zp13 (by simp)
  replace p15 : (v10.alloc (.cells #[.int .u64 (lb dn 0 : Nat), .int .u64 (lb dn 1 : Nat), .int .u64 (lb dn 2 : Nat), .int .u64 (lb dn 3 : Nat)] 25)).heap[qp15]? = _ := (Below.heap_alloc _ _ _ zp15).trans p15
  replace zp15 : qp15 < (v10.alloc (.cells #[.int .u64 (lb dn 0 : Nat), .int .u64 (lb dn 1 : Nat), .int .u64 (lb dn 2 : Nat), .int .u64 (lb dn 3 : Nat)] 25)).heap.size := Nat.lt_of_lt_of_le zp15 (by simp)
  replace p17 : (v10.alloc (.cells #[.int .u64 (lb dn 0 : Nat), .int .u64 (lb dn 1 : Nat), .int .u64 (lb dn 2 : Nat), .int .u64 (lb dn 3 : Nat)] 25)).heap[qp17]? = _ := (Below.heap_alloc _ _ _ zp17).trans p17
  replace zp17 : qp17 < (v10.alloc (.cells #[.int .u64 (lb dn 0 : Nat), .int .u64 (lb dn 1 : Nat), .int .u64 (lb dn 2 : Nat), .int .u64 (lb dn 3 : Nat)] 25)).heap.size := Nat.lt_of_lt_of_le zp17 (by simp)
  replace p19 : (v10.alloc (.cells #[.int .u64 (lb dn 0 : Nat), .int .u64 (lb dn 1 : Nat), .int .u64 (lb dn 2 : Nat), .int .u64 (lb dn 3 : Nat)] 25)).heap[qp19]? = _ := (Below.heap_alloc _ _ _ zp19).trans p19
  replace zp19 : qp19 < (v10.alloc (.cells #[.int .u64 (lb dn 0 : Nat), .int .u64 (lb dn 1 : Nat), .int .u64 (lb dn 2 : Nat), .int .u64 (lb dn 3 : Nat)] 25)).heap.size := Nat.lt_of_lt_of_le zp19 (by simp)
  replace p20 : (v10.alloc (.cells #[.int .u64 (lb dn 0 : Nat), .int .u64 (lb dn 1 : Nat), .int .u64 (lb dn 2 : Nat), .int .u64 (lb dn 3 : Nat)] 25)).heap[qp20]? = _ := (Below.heap_alloc _ _ _ zp20).trans p20
  replace zp20 : qp20 < (v10.alloc (.cells #[.int .u64 (lb dn 0 : Nat), .int .u64 (lb dn 1 : Nat), .int .u64 (lb dn 2 : Nat), .int .u64 (lb dn 3 : Nat)] 25)).heap.size := Nat.lt_of_lt_of_le zp20 (by simp)
  have p24 : (v10.alloc (.cells #[.int .u64 (lb dn 0 : Nat), .int .u64 (lb dn 1 : Nat), .int .u64 (lb dn 2 : Nat), .int .u64 (lb dn 3 : Nat)] 25)).heap[v10.heap.size]? = some (.cells #[.int .u64 (lb dn 0 : Nat), .int .u64 (lb dn 1 : Nat), .int .u64 (lb dn 2 : Nat), .int .u64 (lb dn 3 : Nat)] 25 (0, 0)) := heap_new rfl
  have zp24 : v10.heap.size < (v10.alloc (.cells #[.int .u64 (lb dn 0 : Nat), .int .u64 (lb dn 1 : Nat), .int .u64 (lb dn 2 : Nat), .int .u64 (lb dn 3 : Nat)] 25)).heap.size := by simp
  clear g1 hb
  generalize hgen10 : (v10.alloc (.cells #[.int .u64 (lb dn 0 : Nat), .int .u64 (lb dn 1 : Nat), .int .u64 (lb dn 2 : Nat), .int .u64 (lb dn 3 : Nat)] 25)) = u10 at *
  clear hgen10
  generalize hgq10 : v10.heap.size = qp24 at *
  clear hgq10 v10
  have g1 := g2
  clear g2
  obtain ⟨y0, y1, y2, y3⟩ := cells4w key
  rcases hE with rfl | ⟨rfl, rfl, rfl⟩
  all_goals
    go_wp2_with (go_at_call 14; refine (cLoa _ g1).mono ?_; rintro e v11 ⟨rfl, hb⟩; replace key := (hb.block _ z1).trans key; replace z1 := Nat.lt_of_lt_of_le z1 hb.size; replace p9 := (hb.block _ zp9).trans p9; replace zp9 := Nat.lt_of_lt_of_le zp9 hb.size; replace p13 := (hb.block _ zp13).trans p13; replace zp13 := Nat.lt_of_lt_of_le zp13 hb.size; replace p15 := (hb.block _ zp15).trans p15; replace zp15 := Nat.lt_of_lt_of_le zp15 hb.size; replace p17 := (hb.block _ zp17).trans p17; replace zp17 := Nat.lt_of_lt_of_le zp17 hb.size; replace p19 := (hb.block _ zp19).trans p19; replace zp19 := Nat.lt_of_lt_of_le zp19 hb.size; replace p20 := (hb.block _ zp20).trans p20; replace zp20 := Nat.lt_of_lt_of_le zp20 hb.size; replace p24 := (hb.block _ zp24).trans p24; replace zp24 := Nat.lt_of_lt_of_le zp24 hb.size; clear y0 y1 y2 y3; obtain ⟨y0, y1, y2, y3⟩ := cells4w key; obtain ⟨p9_0, p9_1, p9_2, p9_3⟩ := cells4w p9; obtain ⟨p13_0, p13_1, p13_2, p13_3⟩ := cells4w p13; obtain ⟨p15_0, p15_1, p15_2, p15_3⟩ := cells4w p15; obtain ⟨p17_0, p17_1, p17_2, p17_3⟩ := cells4w p17; obtain ⟨p19_0, p19_1, p19_2, p19_3⟩ := cells4w p19; obtain ⟨p20_0, p20_1, p20_2, p20_3⟩ := cells4w p20; obtain ⟨p24_0, p24_1, p24_2, p24_3⟩ := cells4w p24)
    have g2 := g0.trans ((g1.trans (hb.mono g1.size)).mono g0.size)
    refine bodyPost_ret (by simp only [results, Tryd.results3]; go_simp; try rfl) rfl ⟨rfl, ?_⟩
    exact g2.alloc g2.size _
end Go.Proofs.YtcdjdnbdblpofaaDoor
