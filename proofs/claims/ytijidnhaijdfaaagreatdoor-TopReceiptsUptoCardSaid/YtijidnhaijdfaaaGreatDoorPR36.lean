/-
  Texts of one proof, one behind the other. Conditions: each text's own line says them.
-/
import Derived.Test.YtijidnhaijdfaaaGreatDoorPR34
import Derived.Test.YtijidnhaijdfaaaGreatDoorPR15

/- Receipts: what they are, how they stand in the memory. Conditions: none. -/
namespace Go.Proofs.YtijidnhaijdfaaaGreatDoor
open Go.RowKit
attribute [local go_sem] leftBy leaves Oper.semAt_some
set_option linter.unusedSimpArgs false
set_option linter.unusedVariables false

theorem infoLg : (Tryz.prog.info? 81).map (fun i => (i.zero, i.size, i.bytes)) = some (some (.agg #[.string ⟨#[]⟩, .slice none 0 0, .string ⟨#[]⟩]), 3, 56) := by kernel_rfl
/-- A log. -/
structure Lg where
  a : Bs
  t : List Bs
  d : Bs
def Lg.right (x : Lg) : Prop := x.a.length = 20 ∧ x.t.length ≤ 4 ∧ ∀ s ∈ x.t, s.length = 32
instance (x : Lg) : Decidable x.right := inferInstanceAs (Decidable (_ ∧ _))
def tx (s : Bs) : Value := .string (bsS s)
def Lg.item (x : Lg) : It := .list [.text x.a, .list (x.t.map .text), .text x.d]
/-- A receipt. -/
structure Rc where
  good : Bool
  gas : Nat
  logs : List Lg
def Rc.goodS (x : Rc) : Bs := if x.good then [1] else []
def Rc.item (x : Rc) : It := .list [.text x.goodS, .text (num x.gas), .list (x.logs.map Lg.item)]
def Rc.right (x : Rc) : Prop := (∀ l ∈ x.logs, l.right) ∧ x.logs.length ≤ 20
/-- A log's three cells. -/
def lgR (F : Nat → Prop) (W : World) (bl o : Nat) (x : Lg) : Prop := W.cell? ⟨bl, o, none⟩ = some (.string (bsS x.a)) ∧ (∃ sv, W.cell? ⟨bl, o + 1, none⟩ = some sv ∧ rowF F W sv (x.t.map tx)) ∧ W.cell? ⟨bl, o + 2, none⟩ = some (.string (bsS x.d))
theorem lgR.to {F F' : Nat → Prop} {W W' : World} {bl o : Nat} {x : Lg} (hF : ∀ k, F k → cellsAt W k → F' k ∧ W'.heap[k]? = W.heap[k]?) (e : W'.heap[bl]? = W.heap[bl]?) (h : lgR F W bl o x) : lgR F' W' bl o x := by
  obtain ⟨h0, ⟨sv, h1, hr⟩, h2⟩ := h
  exact ⟨cell_same h0 e, ⟨sv, cell_same h1 e, hr.to hF⟩, cell_same h2 e⟩
/-- A slice of logs. -/
def lgL (F : Nat → Prop) (W : World) (v : Value) (L : List Lg) : Prop := ∃ (a : Option Addr) (c : Nat), v = .slice a L.length c ∧ (L.length ≤ c ∧ c ≤ maxLen) ∧ ∀ (i : Nat) (x : Lg), L[i]? = some x → ∃ bl o, (a = some ⟨bl, o, none⟩ ∧ F bl) ∧ lgR F W bl (o + i * 3) x
theorem lgL.to {F F' : Nat → Prop} {W W' : World} {v : Value} {L : List Lg} (hF : ∀ k, F k → cellsAt W k → F' k ∧ W'.heap[k]? = W.heap[k]?) (h : lgL F W v L) : lgL F' W' v L := by
  obtain ⟨a, c, hv, hc, hx⟩ := h
  refine ⟨a, c, hv, hc, fun i x hi => ?_⟩
  obtain ⟨bl, o, ⟨ha, hf⟩, hl⟩ := hx i x hi
  obtain ⟨hf', e⟩ := hF bl hf (cells_of hl.1)
  exact ⟨bl, o, ⟨ha, hf'⟩, hl.to hF e⟩
theorem lgL.below {F : Nat → Prop} {W W' : World} {v : Value} {L : List Lg} (hb : Below W.heap.size W W') (h : lgL F W v L) : lgL F W' v L := h.to fun k hf hc => ⟨hf, hb.block k hc.lt⟩
/-- A receipt as a value. -/
def rcV (F : Nat → Prop) (W : World) (v : Value) (x : Rc) : Prop := ∃ lv, v = .agg #[.bool x.good, .int .u64 (x.gas : Nat), lv] ∧ lgL F W lv x.logs
theorem rcV.to {F F' : Nat → Prop} {W W' : World} {v : Value} {x : Rc} (hF : ∀ k, F k → cellsAt W k → F' k ∧ W'.heap[k]? = W.heap[k]?) (h : rcV F W v x) : rcV F' W' v x := by
  obtain ⟨lv, hv, hl⟩ := h
  exact ⟨lv, hv, hl.to hF⟩
theorem rcV.below {F : Nat → Prop} {W W' : World} {v : Value} {x : Rc} (hb : Below W.heap.size W W') (h : rcV F W v x) : rcV F W' v x := h.to fun k hf hc => ⟨hf, hb.block k hc.lt⟩
/-- A receipt's three cells; a slice of receipts. -/
def rcR (W : World) (bl o : Nat) (x : Rc) : Prop := W.cell? ⟨bl, o, none⟩ = some (.bool x.good) ∧ W.cell? ⟨bl, o + 1, none⟩ = some (.int .u64 (x.gas : Nat)) ∧ ∃ lv, W.cell? ⟨bl, o + 2, none⟩ = some lv ∧ lgL (fun _ => True) W lv x.logs
theorem rcR.below {W W' : World} {bl o : Nat} {x : Rc} (hb : Below W.heap.size W W') (h : rcR W bl o x) : rcR W' bl o x := by
  obtain ⟨h0, h1, lv, h2, hl⟩ := h
  have e := hb.block bl (lt_of_cell h0)
  exact ⟨cell_same h0 e, cell_same h1 e, lv, cell_same h2 e, hl.below hb⟩
def rcpL (W : World) (v : Value) (L : List Rc) : Prop := ∃ (a : Option Addr) (c : Nat), v = .slice a L.length c ∧ ∀ (i : Nat) (x : Rc), L[i]? = some x → ∃ bl o, a = some ⟨bl, o, none⟩ ∧ rcR W bl (o + i * 3) x
/-- The cells of logs, one behind the other. -/
def cellsG (F : Nat → Prop) (W : World) : List Lg → List Value → Prop
  | [], xs => xs = []
  | x :: l, xs => ∃ sv r, xs = .string (bsS x.a) :: sv :: .string (bsS x.d) :: r ∧ rowF F W sv (x.t.map tx) ∧ cellsG F W l r
theorem cellsG.to {F F' : Nat → Prop} {W W' : World} (hF : ∀ k, F k → cellsAt W k → F' k ∧ W'.heap[k]? = W.heap[k]?) : ∀ {l : List Lg} {xs : List Value}, cellsG F W l xs → cellsG F' W' l xs
  | [], xs, h => h
  | x :: l, xs, h => by
    rw [cellsG] at h ⊢
    obtain ⟨sv, r, e, hr, h⟩ := h
    exact ⟨sv, r, e, hr.to hF, h.to hF⟩
theorem cellsG.length {F : Nat → Prop} {W : World} : ∀ {l : List Lg} {xs : List Value}, cellsG F W l xs → xs.length = l.length * 3
  | [], xs, h => by
    rw [cellsG] at h
    rw [h]
    rfl
  | x :: l, xs, h => by
    rw [cellsG] at h
    obtain ⟨sv, r, rfl, _, h⟩ := h
    simp only [List.length_cons, h.length]
    omega
theorem cellsG.snoc {F : Nat → Prop} {W : World} {y : Lg} {sv : Value} (hy : rowF F W sv (y.t.map tx)) : ∀ {l : List Lg} {xs : List Value}, cellsG F W l xs → cellsG F W (l ++ [y]) (xs ++ [.string (bsS y.a), sv, .string (bsS y.d)])
  | [], xs, h => by
    rw [cellsG] at h
    subst h
    exact ⟨sv, [], rfl, hy, rfl⟩
  | x :: l, xs, h => by
    rw [cellsG] at h
    obtain ⟨sv', r, rfl, hr, h⟩ := h
    exact ⟨sv', _, rfl, hr, h.snoc hy⟩
theorem cellsG.get {F : Nat → Prop} {W : World} : ∀ {l : List Lg} {xs : List Value} {i : Nat} {x : Lg}, cellsG F W l xs → l[i]? = some x → xs[i * 3]? = some (.string (bsS x.a)) ∧ (∃ sv, xs[i * 3 + 1]? = some sv ∧ rowF F W sv (x.t.map tx)) ∧ xs[i * 3 + 2]? = some (.string (bsS x.d))
  | [], xs, i, x, _, hi => by cases hi
  | y :: l, xs, 0, x, h, hi => by
    obtain rfl : y = x := by simpa using hi
    rw [cellsG] at h
    obtain ⟨sv, r, rfl, hr, _⟩ := h
    exact ⟨rfl, ⟨sv, rfl, hr⟩, rfl⟩
  | y :: l, xs, i + 1, x, h, hi => by
    rw [cellsG] at h
    obtain ⟨sv, r, rfl, hr, h⟩ := h
    have := h.get (i := i) (x := x) (by simpa using hi)
    rw [show (i + 1) * 3 = i * 3 + 3 by omega, show i * 3 + 3 + 1 = i * 3 + 1 + 3 by omega, show i * 3 + 3 + 2 = i * 3 + 2 + 3 by omega]
    simpa using this
/-- A row of one's own that holds logs is a slice of logs. -/
theorem row_logs {F F' : Nat → Prop} {W : World} {B : Nat} {v : Value} {l : List Lg} {xs : List Value} (h : W.ownsRow B 81 3 v l.length xs) (hx : cellsG F W l xs) (hF : ∀ k, F k → F' k) (hB : ∀ k, B ≤ k → F' k) : lgL F' W v l := by
  have hcell := fun g hg => h.cells (g := g) hg
  rcases h.2 with ⟨rfl, h0⟩ | ⟨g, cap, cur, rfl, h2, h3, h4, h5, h6, h7⟩
  · have : l = [] := List.eq_nil_of_length_eq_zero h0
    subst this
    exact ⟨none, 0, rfl, ⟨Nat.le_refl _, Nat.zero_le _⟩, fun i x hi => by cases hi⟩
  · refine ⟨_, cap, rfl, ⟨h4, h5⟩, fun i x hi => ?_⟩
    obtain ⟨c0, ⟨sv, c1, hr⟩, c2⟩ := hx.get hi
    have hc := hcell g rfl
    simp only [addr_add] at hc
    refine ⟨g, 0, ⟨rfl, hB g h2⟩, hc _ _ c0, ⟨sv, ?_, hr.to fun k hk _ => ⟨hF k hk, rfl⟩⟩, ?_⟩
    · have := hc _ _ c1
      rwa [← Nat.add_assoc] at this
    · have := hc _ _ c2
      rwa [← Nat.add_assoc] at this
end Go.Proofs.YtijidnhaijdfaaaGreatDoor

/- Receipts that are alike: isLog, SameLogs, Same. Conditions: none. -/
namespace Go.Proofs.YtijidnhaijdfaaaGreatDoor
open Go.RowKit
attribute [local go_sem] leftBy leaves Oper.semAt_some
set_option linter.unusedSimpArgs false
set_option linter.unusedVariables false

set_option maxRecDepth 100000 in
set_option maxHeartbeats 8000000 in
theorem isLog_any (x : Lg) (W : World) (sv : Value) (hs : rowF (fun _ => True) W sv (x.t.map tx)) :
    Calls Tryz.prog 30 #[.agg #[.string (bsS x.a), sv, .string (bsS x.d)]] W fun e w' => e = .returned (.bool (decide x.right)) ∧ Below W.heap.size W w' := by
  obtain ⟨sa, sc, rfl, ⟨hc1, hc2⟩, hcell⟩ := hs
  rw [List.length_map] at hc1 ⊢
  have hmx : x.t.length ≤ 9223372036854775807 := by unfold maxLen at hc2; omega
  have z1 := bsS_size x.a
  have h0 := heap_new (w := W) (o := .cells #[.string (bsS x.a), .slice sa x.t.length sc, .string (bsS x.d)] 81) rfl
  obtain ⟨x0, x1, x2⟩ := cell3 h0
  have b1 : Below W.heap.size W (W.alloc (.cells #[.string (bsS x.a), .slice sa x.t.length sc, .string (bsS x.d)] 81)) := (Below.refl _ W).alloc (Nat.le_refl _) _
  have zz : (W.alloc (.cells #[.string (bsS x.a), .slice sa x.t.length sc, .string (bsS x.d)] 81)).heap.size = W.heap.size + 1 := World.size_alloc _ _
  clear h0
  go_enter Tryz.func30, Tryz.ntmps30
  go_wp2
  generalize W.alloc (.cells #[.string (bsS x.a), .slice sa x.t.length sc, .string (bsS x.d)] 81) = W1 at *
  have hlt0 : W.heap.size < W1.heap.size := by omega
  go_loopw [8] (fun v wr => ∃ i : Nat, i ≤ x.t.length ∧ v = .int .i64 (i : Nat) ∧ (∀ s ∈ x.t.take i, s.length = 32) ∧ Below W1.heap.size W1 wr) (fun v _ => x.t.length - (intOf v).toNat)
  case atStart => exact ⟨0, Nat.zero_le _, rfl, (fun s h => by cases h), Below.refl _ _⟩
  case round =>
    obtain ⟨i, hil, rfl, hall, hbel⟩ := hrel
    by_cases hlt : i < x.t.length
    · obtain ⟨s, hs⟩ : ∃ s, x.t[i]? = some s := ⟨_, List.getElem?_eq_getElem hlt⟩
      obtain ⟨bl, o, ⟨rfl, _⟩, c0⟩ := hcell i (tx s) (by rw [List.getElem?_map, hs]; rfl)
      have c1 : W.cell? ⟨bl, o + i, none⟩ = some (.string (bsS s)) := c0
      have hbl := lt_of_cell c1
      have d0 := (hbel.cell (p := ⟨bl, o + i, none⟩) (by show bl < _; exact Nat.lt_trans hbl hlt0)).trans ((b1.cell (p := ⟨bl, o + i, none⟩) hbl).trans c1)
      have zs := bsS_size s
      have hiti : (i : Int) < (x.t.length : Int) := by omega
      clear c0 c1 hcell
      by_cases h32 : s.length = 32
      · rw [h32] at zs
        go_wp2
        go_roundw
        case rel =>
          refine ⟨i + 1, by omega, by go_num, fun u hu => ?_, hbel⟩
          rw [List.take_succ_eq_append_getElem hlt, (List.getElem?_eq_some_iff.1 hs).2] at hu
          rcases List.mem_append.1 hu with h | h
          · exact hall u h
          · obtain rfl : u = s := by simpa using h
            exact h32
        case measure => simp [intOf]; omega
      · have hne : ((s.length : Int) == 32) = false := by
          rw [beq_eq_false_iff_ne]
          omega
        have hr : decide x.right = false := by
          rw [decide_eq_false_iff_not]
          exact fun h => h32 (h.2.2 s (List.mem_of_getElem? hs))
        go_wp2
        refine bodyPost_ret (by simp only [results, Tryz.results30]; go_simp; try rfl) rfl ⟨?_, b1.trans (hbel.mono (by omega))⟩
        first | rfl | rw [hr]
    · obtain rfl : i = x.t.length := by omega
      rw [List.take_length] at hall
      have d0 := (hbel.cell (p := ⟨W.heap.size, 0, none⟩) hlt0).trans x0
      have d1 := (hbel.cell (p := ⟨W.heap.size, 1, none⟩) hlt0).trans x1
      clear hcell
      by_cases h20 : x.a.length = 20
      · have z2 := z1
        rw [h20] at z2
        by_cases h4 : x.t.length ≤ 4
        · have h4i : (x.t.length : Int) ≤ 4 := by omega
          have hr : decide x.right = true := decide_eq_true ⟨h20, h4, hall⟩
          go_wp2
          refine bodyPost_ret (by simp only [results, Tryz.results30]; go_simp; try rfl) rfl ⟨?_, b1.trans (hbel.mono (by omega))⟩
          first | rfl | rw [hr]
        · have h4i : ¬ (x.t.length : Int) ≤ 4 := by omega
          have hr : decide x.right = false := by
            rw [decide_eq_false_iff_not]
            exact fun h => h4 h.2.1
          go_wp2
          refine bodyPost_ret (by simp only [results, Tryz.results30]; go_simp; try rfl) rfl ⟨?_, b1.trans (hbel.mono (by omega))⟩
          first | rfl | rw [hr]
      · have hne : ((x.a.length : Int) == 20) = false := by
          rw [beq_eq_false_iff_ne]
          omega
        have hr : decide x.right = false := by
          rw [decide_eq_false_iff_not]
          exact fun h => h20 h.1
        go_wp2
        refine bodyPost_ret (by simp only [results, Tryz.results30]; go_simp; try rfl) rfl ⟨?_, b1.trans (hbel.mono (by omega))⟩
        first | rfl | rw [hr]

theorem lgL.at {F : Nat → Prop} {W : World} {v : Value} {L : List Lg} (h : lgL F W v L) (h0 : 0 < L.length) : ∃ bl o c, v = .slice (some ⟨bl, o, none⟩) L.length c ∧ (F bl ∧ bl < W.heap.size) ∧ (L.length ≤ c ∧ c ≤ maxLen) ∧ ∀ (i : Nat) (x : Lg), L[i]? = some x → lgR F W bl (o + i * 3) x := by
  obtain ⟨a, c, rfl, hc, hx⟩ := h
  obtain ⟨bl, o, ⟨rfl, hf⟩, hl⟩ := hx 0 _ (List.getElem?_eq_getElem h0)
  refine ⟨bl, o, c, rfl, ⟨hf, lt_of_cell hl.1⟩, hc, fun i x hi => ?_⟩
  obtain ⟨bl', o', ⟨e, _⟩, hl'⟩ := hx i x hi
  obtain ⟨rfl, rfl⟩ : bl = bl' ∧ o = o' := by simpa using e
  exact hl'
set_option maxRecDepth 100000 in
set_option maxHeartbeats 16000000 in
theorem SameLogs_any {W : World} {va vb : Value} {l : List Lg} (ha : lgL (fun _ => True) W va l) (hb : lgL (fun _ => True) W vb l) :
    Calls Tryz.prog 36 #[va, vb] W fun e w' => e = .returned (.bool true) ∧ Below W.heap.size W w' := by
  by_cases hz : l.length = 0
  · obtain ⟨a, ca, rfl, ⟨a1, a2⟩, ha⟩ := ha
    obtain ⟨b, cb, rfl, ⟨b1, b2⟩, hb⟩ := hb
    rw [hz]
    go_enter Tryz.func36, Tryz.ntmps36
    go_wp2
    go_loopw [5] (fun v wr => v = .int .i64 0 ∧ wr = W) (fun _ _ => 0)
    case atStart => exact ⟨rfl, rfl⟩
    case round =>
      obtain ⟨rfl, rfl⟩ := hrel
      go_wp2
      go_ret
      exact ⟨rfl, Below.refl _ _⟩
  obtain ⟨ba, oa, ca, rfl, ⟨_, hba⟩, ⟨a1, a2⟩, hA⟩ := ha.at (by omega)
  obtain ⟨bb, ob, cb, rfl, ⟨_, hbb⟩, ⟨b1, b2⟩, hB⟩ := hb.at (by omega)
  have HA := Lib.hid hA
  have HB := Lib.hid hB
  unfold maxLen at a2 b2
  clear ha hb hA hB hz
  have hl1 : l.length ≤ 9223372036854775807 := by omega
  go_enter Tryz.func36, Tryz.ntmps36
  go_wp2
  go_loopw [5] (fun v wr => ∃ i : Nat, i ≤ l.length ∧ v = .int .i64 (i : Nat) ∧ Below W.heap.size W wr) (fun v _ => l.length - (intOf v).toNat)
  case atStart => exact ⟨0, Nat.zero_le _, rfl, Below.refl _ _⟩
  case round =>
    obtain ⟨i, hi, rfl, hF⟩ := hrel
    by_cases hlt : i < l.length
    · obtain ⟨x, hx⟩ : ∃ x, l[i]? = some x := ⟨_, List.getElem?_eq_getElem hlt⟩
      obtain ⟨p0, ⟨sv, p1, ⟨ta, tc, rfl, ⟨tc1, tc2⟩, hta⟩⟩, p2⟩ := HA.out i x hx
      obtain ⟨q0, ⟨su, q1, ⟨tb, td, rfl, ⟨td1, td2⟩, htb⟩⟩, q2⟩ := HB.out i x hx
      rw [List.length_map] at p1 q1 tc1 td1
      unfold maxLen at tc2 td2
      have HTA := Lib.hid hta
      have HTB := Lib.hid htb
      have HF := Lib.hid hF
      have g0 := (hF.cell (p := ⟨ba, _, none⟩) hba).trans p0
      have g1 := (hF.cell (p := ⟨ba, _, none⟩) hba).trans p1
      have g2 := (hF.cell (p := ⟨ba, _, none⟩) hba).trans p2
      have k0 := (hF.cell (p := ⟨bb, _, none⟩) hbb).trans q0
      have k1 := (hF.cell (p := ⟨bb, _, none⟩) hbb).trans q1
      have k2 := (hF.cell (p := ⟨bb, _, none⟩) hbb).trans q2
      have hzs := hF.size
      have la : ba < wr.heap.size := by omega
      have lb' : bb < wr.heap.size := by omega
      have H1 := Lib.hid p1
      have J1 := Lib.hid q1
      clear p0 p1 p2 q0 q1 q2 hF hta htb hx
      obtain ⟨xa, xt, xd⟩ := x
      dsimp only at *
      go_wp2
      refine wp_flowU (fun k => ([1, 1, 1, 1, 1, 1, 1, 1, 1, 1, 1, 1, 1, 1, 1, 1, 1, 1, 1, 1, 1, 1, 1, 1, 1, 1, 1, 1, 1, 1, 1, 1, 1, 1, 1, 1, 1, 1, 1] : List Nat).getD k 1) (fun (_ : Unit) w' => Below wr.heap.size wr w') (fun _ => True) (()) (below_drewN (Below.refl _ _) _) trivial (by kernel_rfl) (by kernel_rfl) ?_
      iterate 12 ((refine flowU_readE rfl rfl (fun K hK => ?_); apply Exists.intro; apply And.intro; (focus (intro w' hR; have y0 := (hR.cell (p := ⟨ba, _, none⟩) la).trans g0; have y1 := (hR.cell (p := ⟨ba, _, none⟩) la).trans g1; have y2 := (hR.cell (p := ⟨ba, _, none⟩) la).trans g2; have z0 := (hR.cell (p := ⟨bb, _, none⟩) lb').trans k0; have z1 := (hR.cell (p := ⟨bb, _, none⟩) lb').trans k1; have z2 := (hR.cell (p := ⟨bb, _, none⟩) lb').trans k2; clear hR; go_simp; (try go_bits); exact rfl)); go_simp; (try go_bits); refine hK _ ?_; clear hK K))
      iterate 11 (first | (refine flowU_skip rfl (fun K hK => ?_); go_simp; (try go_bits); refine hK _ ?_; clear hK K) | (refine flowU_readE rfl rfl (fun K hK => ?_); apply Exists.intro; apply And.intro; (focus (intro w' hR; have y0 := (hR.cell (p := ⟨ba, _, none⟩) la).trans g0; have y1 := (hR.cell (p := ⟨ba, _, none⟩) la).trans g1; have y2 := (hR.cell (p := ⟨ba, _, none⟩) la).trans g2; have z0 := (hR.cell (p := ⟨bb, _, none⟩) lb').trans k0; have z1 := (hR.cell (p := ⟨bb, _, none⟩) lb').trans k1; have z2 := (hR.cell (p := ⟨bb, _, none⟩) lb').trans k2; clear hR; go_simp; (try go_bits); exact rfl)); go_simp; (try go_bits); refine hK _ ?_; clear hK K))
      iterate 2 ((refine flowU_readE rfl rfl (fun K hK => ?_); apply Exists.intro; apply And.intro; (focus (intro w' hR; have y0 := (hR.cell (p := ⟨ba, _, none⟩) la).trans g0; have y1 := (hR.cell (p := ⟨ba, _, none⟩) la).trans g1; have y2 := (hR.cell (p := ⟨ba, _, none⟩) la).trans g2; have z0 := (hR.cell (p := ⟨bb, _, none⟩) lb').trans k0; have z1 := (hR.cell (p := ⟨bb, _, none⟩) lb').trans k1; have z2 := (hR.cell (p := ⟨bb, _, none⟩) lb').trans k2; clear hR; go_simp; (try go_bits); exact rfl)); go_simp; (try go_bits); refine hK _ ?_; clear hK K))
      iterate 13 (first | (refine flowU_skip rfl (fun K hK => ?_); go_simp; (try go_bits); refine hK _ ?_; clear hK K) | (refine flowU_readE rfl rfl (fun K hK => ?_); apply Exists.intro; apply And.intro; (focus (intro w' hR; have y0 := (hR.cell (p := ⟨ba, _, none⟩) la).trans g0; have y1 := (hR.cell (p := ⟨ba, _, none⟩) la).trans g1; have y2 := (hR.cell (p := ⟨ba, _, none⟩) la).trans g2; have z0 := (hR.cell (p := ⟨bb, _, none⟩) lb').trans k0; have z1 := (hR.cell (p := ⟨bb, _, none⟩) lb').trans k1; have z2 := (hR.cell (p := ⟨bb, _, none⟩) lb').trans k2; clear hR; go_simp; (try go_bits); exact rfl)); go_simp; (try go_bits); refine hK _ ?_; clear hK K))
      (refine flowU_readE rfl rfl (fun K hK => ?_); apply Exists.intro; apply And.intro; (focus (intro w' hR; have y0 := (hR.cell (p := ⟨ba, _, none⟩) la).trans g0; have y1 := (hR.cell (p := ⟨ba, _, none⟩) la).trans g1; have y2 := (hR.cell (p := ⟨ba, _, none⟩) la).trans g2; have z0 := (hR.cell (p := ⟨bb, _, none⟩) lb').trans k0; have z1 := (hR.cell (p := ⟨bb, _, none⟩) lb').trans k1; have z2 := (hR.cell (p := ⟨bb, _, none⟩) lb').trans k2; clear hR; go_simp; (try go_bits); exact rfl)); go_simp; (try go_bits); refine hK _ ?_; clear hK K)
      refine flowU_nil ?_
      intro w2 hR2
      have HF2 := Lib.hid (HF.out.trans (hR2.mono hzs))
      clear hR2 HF g0 g1 g2 k0 k1 k2 la lb' hzs
      have tl4 : xt.length ≤ 9223372036854775807 := by omega
      go_wp2
      obtain ⟨wo, rfl⟩ : ∃ wo : World, wo = wr := ⟨_, rfl⟩
      go_loopw [6] (fun v wr => ∃ k : Nat, k ≤ xt.length ∧ v = .int .i64 (k : Nat) ∧ Below W.heap.size W wr) (fun v _ => xt.length - (intOf v).toNat)
      case atStart => exact ⟨0, Nat.zero_le _, rfl, HF2.out⟩
      case round =>
        obtain ⟨k, hk, rfl, hF⟩ := hrel
        have hzs := hF.size
        have g1 := (hF.cell (p := ⟨ba, _, none⟩) hba).trans H1.out
        have k1 := (hF.cell (p := ⟨bb, _, none⟩) hbb).trans J1.out
        have la : ba < wr.heap.size := by omega
        have lb' : bb < wr.heap.size := by omega
        by_cases hkt : k < xt.length
        · obtain ⟨s, hs⟩ : ∃ s, xt[k]? = some s := ⟨_, List.getElem?_eq_getElem hkt⟩
          obtain ⟨m1, n1, ⟨rfl, _⟩, hc1⟩ := HTA.out k (tx s) (by rw [List.getElem?_map, hs]; rfl)
          obtain ⟨m2, n2, ⟨rfl, _⟩, hc2⟩ := HTB.out k (tx s) (by rw [List.getElem?_map, hs]; rfl)
          have e1 : W.cell? ⟨m1, n1 + k, none⟩ = some (.string (bsS s)) := hc1
          have e2 : W.cell? ⟨m2, n2 + k, none⟩ = some (.string (bsS s)) := hc2
          have l1 := lt_of_cell e1
          have l2 := lt_of_cell e2
          have f1 := (hF.cell (p := ⟨m1, n1 + k, none⟩) l1).trans e1
          have f2 := (hF.cell (p := ⟨m2, n2 + k, none⟩) l2).trans e2
          dsimp only at l1 l2
          have l3 : m1 < wr.heap.size := by omega
          have l4 : m2 < wr.heap.size := by omega
          have HF3 := Lib.hid hF
          clear hF hs hc1 hc2 e1 e2
          go_wp2
          refine wp_flowU (fun k => ([1, 1, 1, 1, 1, 1, 1, 1, 1, 1, 1, 1, 1, 1, 1, 1, 1] : List Nat).getD k 1) (fun (_ : Unit) w' => Below wr.heap.size wr w') (fun _ => True) (()) (below_drewN (Below.refl _ _) _) trivial (by kernel_rfl) (by kernel_rfl) ?_
          iterate 17 ((refine flowU_readE rfl rfl (fun K hK => ?_); apply Exists.intro; apply And.intro; (focus (intro w' hR; have y1 := (hR.cell (p := ⟨ba, _, none⟩) la).trans g1; have z1 := (hR.cell (p := ⟨bb, _, none⟩) lb').trans k1; have yc := (hR.cell (p := ⟨m1, n1 + k, none⟩) l3).trans f1; have zc := (hR.cell (p := ⟨m2, n2 + k, none⟩) l4).trans f2; clear hR; go_simp; (try go_bits); exact rfl)); go_simp; (try go_bits); refine hK _ ?_; clear hK K))
          refine flowU_nil ?_
          intro w3 hR3
          have HF4 := Lib.hid (HF3.out.trans (hR3.mono hzs))
          clear hR3 HF3 g1 k1 la lb' f1 f2
          go_wp2
          go_roundw
          case rel => exact ⟨k + 1, by omega, by go_num, HF4.out⟩
          case measure => simp [intOf]; omega
        · obtain rfl : k = xt.length := by omega
          have HF3 := Lib.hid hF
          clear hF
          go_wp2
          exact ⟨⟨i + 1, by omega, by go_num, HF3.out⟩, by simp [intOf]; omega⟩
    · obtain rfl : i = l.length := by omega
      go_wp2
      go_ret
      exact ⟨rfl, hF⟩
set_option maxRecDepth 100000 in
set_option maxHeartbeats 8000000 in
theorem Same_any {W : World} {va vb : Value} {x : Rc} (ha : rcV (fun _ => True) W va x) (hb : rcV (fun _ => True) W vb x) :
    Calls Tryz.prog 16 #[va, vb] W fun e w' => e = .returned (.bool true) ∧ Below W.heap.size W w' := by
  obtain ⟨l1, rfl, h1⟩ := ha
  obtain ⟨l2, rfl, h2⟩ := hb
  obtain ⟨a1, c1, rfl, _⟩ := id h1
  obtain ⟨a2, c2, rfl, _⟩ := id h2
  have cS := fun w (hw : Below W.heap.size W w) => SameLogs_any (h1.below hw) (h2.below hw)
  have b0 : Below W.heap.size W (W.alloc (.cells #[.bool x.good, .int .u64 (x.gas : Nat), .slice a1 x.logs.length c1] 47)) := (Below.refl _ W).alloc (Nat.le_refl _) _
  have b1 := b0.alloc (by have := b0.size; omega) (.cells #[.bool x.good, .int .u64 (x.gas : Nat), .slice a2 x.logs.length c2] 47)
  have cS2 := cS _ b1
  clear cS h1 h2
  go_enter Tryz.func16, Tryz.ntmps16
  go_wp2_with (go_at_call 36; refine cS2.mono ?_; rintro e w2 ⟨rfl, hb2⟩)
  refine bodyPost_ret (by simp only [results, Tryz.results16]; go_simp; try rfl) rfl ⟨rfl, b1.trans (hb2.mono b1.size)⟩
end Go.Proofs.YtijidnhaijdfaaaGreatDoor
