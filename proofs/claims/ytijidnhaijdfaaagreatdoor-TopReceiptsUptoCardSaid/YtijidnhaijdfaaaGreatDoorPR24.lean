/-
  Leaves that have the same half byte ahead: parts. Conditions: no path is at its end.
-/
import Derived.RangeFuncBox
import Derived.LoopNIn
import Derived.LoopIn
import Derived.WalkMore
import Derived.Test.YtijidnhaijdfaaaGreatDoorPR20
import Derived.Test.YtijidnhaijdfaaaGreatDoorPR16
namespace Go.Proofs.YtijidnhaijdfaaaGreatDoor
open Go.RowKit
attribute [local go_sem] leftBy leaves Oper.semAt_some
set_option linter.unusedSimpArgs false
set_option linter.unusedVariables false

/-- Leaves, by the half byte ahead. -/
def grp : Nat → List Lf → List (UInt8 × List Lf)
  | 0, _ => []
  | k + 1, l => match l with
    | [] => []
    | x :: _ => match x.1 with
      | [] => []
      | h :: _ => (h, l.take (run h l)) :: grp k (l.drop (run h l))
def kidL (g : List Lf → Nd) : List (UInt8 × List Lf) → Cs
  | [] => .nil
  | (h, M) :: r => .cons h (g (tails 1 M)) (kidL g r)
theorem kids_grp (g : List Lf → Nd) : ∀ (k : Nat) (L : List Lf), kids g k L = kidL g (grp k L)
  | 0, L => by rw [kids, grp, kidL]
  | k + 1, [] => by rw [kids, grp, kidL]
  | k + 1, x :: l => by
    rw [kids, grp]
    cases hx : x.1 with
    | nil => simp only [hx]; rw [kidL]
    | cons h t => simp only [hx]; rw [kidL, kids_grp g k]
theorem grp_cons {k : Nat} {L : List Lf} {x : Lf} {h : UInt8} {t : Bs} (h0 : L[0]? = some x) (hx : x.1 = h :: t) : grp (k + 1) L = (h, L.take (run h L)) :: grp k (L.drop (run h L)) := by
  cases L with
  | nil => cases h0
  | cons y l =>
    obtain rfl : y = x := by simpa using h0
    rw [grp]
    simp only [hx]
theorem run_at (h : UInt8) : ∀ (L : List Lf) (n : Nat) (x : Lf), n < run h L → L[n]? = some x → x.1.head? = some h
  | [], n, x, hn, _ => by rw [run] at hn; omega
  | y :: l, n, x, hn, hx => by
    rw [run] at hn
    split at hn
    · rename_i e
      cases n with
      | zero =>
        obtain rfl : y = x := by simpa using hx
        exact e
      | succ n => exact run_at h l n x (by omega) (by simpa using hx)
    · omega
theorem run_stop (h : UInt8) : ∀ (L : List Lf) (x : Lf), L[run h L]? = some x → x.1.head? ≠ some h
  | [], x, hx => by rw [run] at hx; cases hx
  | y :: l, x, hx => by
    rw [run] at hx
    split at hx
    · exact run_stop h l x (by simpa using hx)
    · rename_i e
      obtain rfl : y = x := by simpa using hx
      exact e
theorem lvF.take {F : Nat → Prop} {W : World} {a : Option Addr} {c : Nat} {L : List Lf} (h : lvF F W (.slice a L.length c) L) {n : Nat} (hn : n ≤ L.length) : lvF F W (.slice a n c) (L.take n) := by
  obtain ⟨a', c', hv, hc, hx⟩ := h
  obtain ⟨rfl, rfl⟩ : a = a' ∧ c = c' := by simpa using hv
  have hl : (L.take n).length = n := by rw [List.length_take]; omega
  refine ⟨a, c, by rw [hl], ⟨by omega, hc.2⟩, fun i x hi => hx i x ?_⟩
  rw [List.getElem?_take] at hi
  split at hi
  · exact hi
  · cases hi
theorem lvF.drop {F : Nat → Prop} {W : World} {bl o c : Nat} {L : List Lf} (h : lvF F W (.slice (some ⟨bl, o, none⟩) L.length c) L) {n : Nat} (hn : n ≤ L.length) : lvF F W (.slice (some ⟨bl, o + n * 2, none⟩) (L.length - n) (c - n)) (L.drop n) := by
  obtain ⟨a', c', hv, hc, hx⟩ := h
  simp only [Value.slice.injEq] at hv
  obtain ⟨rfl, _, rfl⟩ := hv
  refine ⟨_, _, by rw [List.length_drop], ⟨by rw [List.length_drop]; omega, by omega⟩, fun i x hi => ?_⟩
  rw [List.getElem?_drop] at hi
  obtain ⟨bl', o', ⟨e, hf⟩, c0, c1⟩ := hx (n + i) x hi
  obtain ⟨rfl, rfl⟩ : bl = bl' ∧ o = o' := by simpa using e
  exact ⟨bl, _, ⟨rfl, hf⟩, by rw [show o + n * 2 + i * 2 = o + (n + i) * 2 by omega]; exact c0, by rw [show o + n * 2 + i * 2 + 1 = o + (n + i) * 2 + 1 by omega]; exact c1⟩
theorem lvF.at {F : Nat → Prop} {W : World} {a : Option Addr} {c : Nat} {L : List Lf} (h : lvF F W (.slice a L.length c) L) (h0 : 0 < L.length) : ∃ bl o, a = some ⟨bl, o, none⟩ ∧ ∀ (i : Nat) (x : Lf), L[i]? = some x → W.cell? ⟨bl, o + i * 2, none⟩ = some (.string (bsS x.1)) ∧ W.cell? ⟨bl, o + i * 2 + 1, none⟩ = some (.string (bsS x.2)) := by
  obtain ⟨a', c', hv, hc, hx⟩ := h
  simp only [Value.slice.injEq] at hv
  obtain ⟨rfl, _, rfl⟩ := hv
  obtain ⟨bl, o, ⟨rfl, _⟩, _⟩ := hx 0 _ (List.getElem?_eq_getElem h0)
  refine ⟨bl, o, rfl, fun i x hi => ?_⟩
  obtain ⟨bl', o', ⟨e, hf⟩, c0, c1⟩ := hx i x hi
  obtain ⟨rfl, rfl⟩ : bl = bl' ∧ o = o' := by simpa using e
  exact ⟨c0, c1⟩
theorem parts_any (v : Value) (W : World) (hv : ∃ a n c, v = .slice a n c) : Calls Tryz.prog 85 #[v] W fun e w' => e = .returned (.func (.func 104) #[] #[.pointer (some ⟨W.heap.size, 0, none⟩)]) ∧ w' = W.alloc (.cells #[v] 134) := by
  obtain ⟨a, n, c, rfl⟩ := hv
  go_enter Tryz.func85, Tryz.ntmps85
  go_wp2
  go_ret
  exact ⟨rfl, rfl⟩
def partY (F : Nat → Prop) (G : List (UInt8 × List Lf)) (k : Nat) (W : World) (vs : Array Value) : Prop := ∃ h M v, G[k]? = some (h, M) ∧ vs = #[.int .i64 (h.toNat : Nat), v] ∧ lvF F W v M
def boxCnt (Bs : Nat) (W : World) : Nat := match W.heap[Bs]? with
  | some (.cells c _ _) => match c[0]? with
    | some (Value.slice _ n _) => n
    | _ => 0
  | _ => 0
theorem boxCnt_of {Bs : Nat} {W : World} {a : Option Addr} {n c : Nat} {t : TypeId} {f : Nat × Nat} (h : W.heap[Bs]? = some (.cells #[.slice a n c] t f)) : boxCnt Bs W = n := by
  unfold boxCnt
  rw [h]
  rfl
set_option maxRecDepth 100000 in
set_option maxHeartbeats 8000000 in
theorem parts_it (n : Nat) (hn : 1 ≤ n) (l Bs : Nat) (F : Nat → Prop) (hFB : ¬ F Bs) (m : Nat) (L : List Lf) (hm : L.length ≤ m) (hne : ∀ x ∈ L, x.1 ≠ []) (hL : L.length ≤ 100000) (hs : ∀ x ∈ L, x.1.length ≤ 100000) (J : Nat → World → Prop) (W : World) (v0 : Value)
    (hJb : ∀ k W W', J k W → Below W.heap.size W W' → J k W') (hJs : ∀ k W v, J k W → J k (W.setCell ⟨Bs, 0, none⟩ v))
    (hJF : ∀ k W1 M v, J k W1 → lvF F W v M → lvF F W1 v M)
    (hY : ∀ k W1 vs, J k W1 → k < (grp m L).length → partY F (grp m L) k W1 vs → YieldAt (FW none) (n - 1) Tryz.prog l vs W1 fun e W' => e = .returned (.bool true) ∧ J (k + 1) W' ∧ boxK Bs W1 W')
    (h0 : J 0 W) (hs0 : W.heap[Bs]? = some (.cells #[v0] 134 (0, 0))) (hv0 : lvF F W v0 L) :
    CallsIn (FW none) n Tryz.prog 104 #[.func (.yield l) #[] #[], .pointer (some ⟨Bs, 0, none⟩)] W fun e W' => (∃ v, e = .returned v) ∧ J (grp m L).length W' := by
  refine callsIn_of_wp Tryz.func104 rfl trivial ?_ rfl
  simp only [Tryz.ntmps104, List.size_toArray, List.length_cons, List.length_nil, Nat.reduceAdd, Nat.reduceSub, Array.replicate_succ, Array.replicate_zero, List.push_toArray, List.append_toArray, List.nil_append, List.cons_append]
  gi_wp2
  gi_loopw [] (fun wr => ∃ (k j : Nat) (R : List Lf) (a : Option Addr) (c : Nat), k ≤ (grp m L).length ∧ R.length ≤ j ∧ (grp m L).drop k = grp j R ∧ (∀ x ∈ R, x ∈ L) ∧ R.length ≤ L.length ∧ J k wr ∧ wr.heap[Bs]? = some (.cells #[.slice a R.length c] 134 (0, 0)) ∧ lvF F W (.slice a R.length c) R) (fun wr => boxCnt Bs wr)
  case atStart =>
    have hv := hv0
    obtain ⟨a, c, rfl, _⟩ := hv
    exact ⟨0, m, L, a, c, Nat.zero_le _, hm, rfl, fun _ h => h, Nat.le_refl _, h0, hs0, hv0⟩
  case round =>
    obtain ⟨k, j, R, a, c, hkN, hRj, hdr, hRL, hRl, hJ, hbox, hlv⟩ := hrel
    have cB := Lib.cell_of_heap hbox 0
    have fB := Lib.frozen_of_heap hbox 0
    simp only [List.getElem?_toArray, List.getElem?_cons_zero] at cB
    by_cases hR0 : 0 < R.length
    · obtain ⟨x, hx⟩ : ∃ x, R[0]? = some x := ⟨_, List.getElem?_eq_getElem hR0⟩
      have hxm := List.mem_of_getElem? hx
      obtain ⟨h, t, hht⟩ : ∃ h t, x.1 = h :: t := by
        cases hq : x.1 with
        | nil => exact absurd hq (hne x (hRL x hxm))
        | cons h t => exact ⟨h, t, rfl⟩
      obtain ⟨bl, o, rfl, hcell⟩ := (hJF k wr R _ hJ hlv).at hR0
      obtain ⟨x0, _⟩ := hcell 0 x hx
      rw [Nat.zero_mul, Nat.add_zero] at x0
      have hnz : (bsS x.1).toList.isEmpty = false := by rw [bsS_list, hht]; rfl
      have hix : ∀ w : World, (Instr.index 9 (.string (bsS x.1)) (.int .i64 0)).run Tryz.prog w = .ok (.int .u8 (h.toNat : Nat)) w := fun w => index_bs x.1 0 h (by rw [hht]; rfl) w
      obtain ⟨j, rfl⟩ : ∃ j', j = j' + 1 := ⟨j - 1, by omega⟩
      rw [grp_cons hx hht] at hdr
      have hrp : 0 < run h R := by
        cases hq : R with
        | nil => rw [hq] at hR0; simp at hR0
        | cons y r =>
          rw [hq] at hx
          obtain rfl : y = x := by simpa using hx
          exact run_pos (by rw [hht]; rfl)
      have hrl := run_le h R
      have hR0i : (0 : Int) < (R.length : Int) := by omega
      have hgt := Lib.hid hY
      have hjs := Lib.hid hJs
      have hjb := Lib.hid hJb
      have hjf := Lib.hid hJF
      have hcl := Lib.hid hcell
      have hdh := Lib.hid hdr
      have hlh := Lib.hid hlv
      have hnh := Lib.hid hne
      have hrlh := Lib.hid hRL
      clear hY hJs hJb hJF hcell hdr hlv hne hRL hs hs0 hv0 h0 hm
      have hhh := Lib.hid hht
      clear hht
      have hw : wrap64 ((h.toNat : Nat) : Int) = (h.toNat : Int) := by
        have := h.toNat_lt
        unfold wrap64
        omega
      refine wpIn_hide fun QQ hQQ => ?_
      gi_wp2
      have hcw := hcl.out
      have hcwh := Lib.hid hcw
      clear hcw
      gi_loopw [4] (fun v wr2 => wr2 = wr ∧ ∃ i : Nat, 1 ≤ i ∧ i ≤ run h R ∧ v = .int .i64 (i : Nat)) (fun v _ => run h R - (intOf v).toNat)
      case atStart => exact ⟨rfl, 1, Nat.le_refl _, hrp, rfl⟩
      case round =>
        obtain ⟨rfl, i, hi1, hi2, rfl⟩ := hrel
        by_cases hir : i < run h R
        · obtain ⟨y, hy⟩ : ∃ y, R[i]? = some y := ⟨_, List.getElem?_eq_getElem (by omega)⟩
          have hyh := run_at h R i y hir hy
          obtain ⟨u, hyu⟩ : ∃ u, y.1 = h :: u := by
            cases hq : y.1 with
            | nil => rw [hq] at hyh; simp at hyh
            | cons b u =>
              rw [hq] at hyh
              have : b = h := by simpa using hyh
              exact ⟨u, by rw [this]⟩
          obtain ⟨y0, _⟩ := hcl.out i y hy
          have hiy : ∀ w : World, (Instr.index 9 (.string (bsS y.1)) (.int .i64 0)).run Tryz.prog w = .ok (.int .u8 (h.toNat : Nat)) w := fun w => index_bs y.1 0 h (by rw [hyu]; rfl) w
          have hiR : (i : Int) < (R.length : Int) := by omega
          have hyuh := Lib.hid hyu
          clear hyu hyh
          refine wpIn_hide fun Q2 hQ2 => ?_
          gi_wp2
          refine hQ2.out _ _ _ ?_
          simp only [Exit.then, Exit.inBlock]
          go_roundw
          case rel => exact ⟨trivial, i + 1, by omega, by omega, by go_num⟩
          case measure => simp [intOf]; omega
        · obtain rfl : i = run h R := by omega
          have hgk : (grp m L)[k]? = some (h, R.take (run h R)) := by
            have := congrArg (·[0]?) hdh.out
            simpa using this
          have hkl : k < (grp m L).length := (List.getElem?_eq_some_iff.1 hgk).1
          obtain ⟨fn, tmps, assign, body, hy, hR⟩ := hgt.out k wr #[.int .i64 (h.toNat : Nat), .slice (some ⟨bl, o, none⟩) (run h R) c] hJ hkl ⟨h, _, _, hgk, rfl, (hjf.out k wr R _ hJ hlh.out).take hrl⟩
          have hcc : R.length ≤ c := by
            obtain ⟨a', c', e, h1, _⟩ := hlh.out
            simp only [Value.slice.injEq] at e
            omega
          have hcm : c ≤ maxLen := by
            obtain ⟨a', c', e, h1, h2⟩ := hlh.out
            simp only [Value.slice.injEq] at e
            omega
          have hrli : ((run h R : Nat) : Int) ≤ (c : Int) := by omega
          have hrlj : ((run h R : Nat) : Int) ≤ (R.length : Int) := by omega
          rcases Nat.lt_or_ge (run h R) R.length with hlt | hge
          · obtain ⟨y, hy2⟩ : ∃ y, R[run h R]? = some y := ⟨_, List.getElem?_eq_getElem hlt⟩
            have hyh := run_stop h R y hy2
            obtain ⟨b, u, hyu⟩ : ∃ b u, y.1 = b :: u := by
              cases hq : y.1 with
              | nil => exact absurd hq (hnh.out y (hrlh.out y (List.mem_of_getElem? hy2)))
              | cons b u => exact ⟨b, u, rfl⟩
            have hbh : b ≠ h := fun e => hyh (by rw [hyu, e]; rfl)
            have hwb : wrap64 ((b.toNat : Nat) : Int) = (b.toNat : Int) := by
              have := b.toNat_lt
              unfold wrap64
              omega
            have hbi : (((b.toNat : Nat) : Int) == ((h.toNat : Nat) : Int)) = false := by
              rw [beq_eq_false_iff_ne]
              exact fun e => hbh (UInt8.toNat_inj.1 (by omega))
            obtain ⟨y0, _⟩ := hcl.out _ y hy2
            have hiy : ∀ w : World, (Instr.index 9 (.string (bsS y.1)) (.int .i64 0)).run Tryz.prog w = .ok (.int .u8 (b.toNat : Nat)) w := fun w => index_bs y.1 0 b (by rw [hyu]; rfl) w
            have hiR : ((run h R : Nat) : Int) < (R.length : Int) := by omega
            clear hyu hyh hbh
            gi_wp2
            refine hR.mono ?_
            rintro e W3 ⟨rfl, hJ3, hK3⟩
            have hb3 := hK3 _ hbox
            have cB3 := Lib.cell_of_heap hb3 0
            have fB3 := Lib.frozen_of_heap hb3 0
            simp only [List.getElem?_toArray, List.getElem?_cons_zero] at cB3
            have hd1 : (grp m L).drop (k + 1) = grp j (R.drop (run h R)) := by
              have := congrArg (List.drop 1) hdh.out
              rw [List.drop_drop] at this
              exact this
            have hdl : (R.drop (run h R)).length = R.length - run h R := List.length_drop
            have hsub : ∀ x ∈ R.drop (run h R), x ∈ L := fun x hx => hrlh.out x (List.mem_of_mem_drop hx)
            have hld := hlh.out.drop hrl
            rw [← hdl] at hld
            have hset : ∀ v, (W3.setCell ⟨Bs, 0, none⟩ v).heap[Bs]? = some (.cells #[v] 134 (0, 0)) := fun v => set_same hb3
            have hrel : ∀ a' c', lvF F W (.slice a' (R.length - run h R) c') (R.drop (run h R)) → ∃ (k' j' : Nat) (R' : List Lf) (a'' : Option Addr) (c'' : Nat), k' ≤ (grp m L).length ∧ R'.length ≤ j' ∧ (grp m L).drop k' = grp j' R' ∧ (∀ x ∈ R', x ∈ L) ∧ R'.length ≤ L.length ∧ J k' (W3.setCell ⟨Bs, 0, none⟩ (.slice a' (R.length - run h R) c')) ∧ (W3.setCell ⟨Bs, 0, none⟩ (.slice a' (R.length - run h R) c')).heap[Bs]? = some (.cells #[.slice a'' R'.length c''] 134 (0, 0)) ∧ lvF F W (.slice a'' R'.length c'') R' := fun a' c' hv =>
              ⟨k + 1, j, R.drop (run h R), a', c', by omega, by omega, hd1, hsub, by omega, hjs.out _ _ _ hJ3, by rw [hdl]; exact hset _, by rw [hdl]; exact hv⟩
            have hmea : ∀ a' c', boxCnt Bs (W3.setCell ⟨Bs, 0, none⟩ (.slice a' (R.length - run h R) c')) < boxCnt Bs wr := fun a' c' => by
              rw [boxCnt_of (hset _), boxCnt_of hbox]
              omega
            rw [hdl] at hld
            have hrelh := Lib.hid hrel
            have hmeah := Lib.hid hmea
            have hldh := Lib.hid hld
            clear hrel hmea hld hset hsub hd1 hdl
            gi_wp2
            refine hQQ.out _ _ _ ?_
            simp only [Exit.then, Exit.inBlock]
            go_roundw
            case rel => exact hrelh.out _ _ hldh.out
            case measure => exact hmeah.out _ _
          · have hiR : ¬ ((run h R : Nat) : Int) < (R.length : Int) := by omega
            gi_wp2
            refine hR.mono ?_
            rintro e W3 ⟨rfl, hJ3, hK3⟩
            have hb3 := hK3 _ hbox
            have cB3 := Lib.cell_of_heap hb3 0
            have fB3 := Lib.frozen_of_heap hb3 0
            simp only [List.getElem?_toArray, List.getElem?_cons_zero] at cB3
            have hd1 : (grp m L).drop (k + 1) = grp j (R.drop (run h R)) := by
              have := congrArg (List.drop 1) hdh.out
              rw [List.drop_drop] at this
              exact this
            have hdl : (R.drop (run h R)).length = R.length - run h R := List.length_drop
            have hsub : ∀ x ∈ R.drop (run h R), x ∈ L := fun x hx => hrlh.out x (List.mem_of_mem_drop hx)
            have hld := hlh.out.drop hrl
            rw [← hdl] at hld
            have hset : ∀ v, (W3.setCell ⟨Bs, 0, none⟩ v).heap[Bs]? = some (.cells #[v] 134 (0, 0)) := fun v => set_same hb3
            have hrel : ∀ a' c', lvF F W (.slice a' (R.length - run h R) c') (R.drop (run h R)) → ∃ (k' j' : Nat) (R' : List Lf) (a'' : Option Addr) (c'' : Nat), k' ≤ (grp m L).length ∧ R'.length ≤ j' ∧ (grp m L).drop k' = grp j' R' ∧ (∀ x ∈ R', x ∈ L) ∧ R'.length ≤ L.length ∧ J k' (W3.setCell ⟨Bs, 0, none⟩ (.slice a' (R.length - run h R) c')) ∧ (W3.setCell ⟨Bs, 0, none⟩ (.slice a' (R.length - run h R) c')).heap[Bs]? = some (.cells #[.slice a'' R'.length c''] 134 (0, 0)) ∧ lvF F W (.slice a'' R'.length c'') R' := fun a' c' hv =>
              ⟨k + 1, j, R.drop (run h R), a', c', by omega, by omega, hd1, hsub, by omega, hjs.out _ _ _ hJ3, by rw [hdl]; exact hset _, by rw [hdl]; exact hv⟩
            have hmea : ∀ a' c', boxCnt Bs (W3.setCell ⟨Bs, 0, none⟩ (.slice a' (R.length - run h R) c')) < boxCnt Bs wr := fun a' c' => by
              rw [boxCnt_of (hset _), boxCnt_of hbox]
              omega
            rw [hdl] at hld
            have hrelh := Lib.hid hrel
            have hmeah := Lib.hid hmea
            have hldh := Lib.hid hld
            clear hrel hmea hld hset hsub hd1 hdl
            have hRe : R.length - run h R = 0 := by omega
            have hnil : R.drop (run h R) = [] := List.drop_eq_nil_of_le hge
            have hre2 := hrelh.out
            have hme2 := hmeah.out
            rw [hRe] at hre2 hme2
            have hre3 : ∀ a' c', c' ≤ maxLen → _ := fun a' c' hc => hre2 a' c' (by rw [hnil]; exact ⟨a', c', rfl, ⟨Nat.zero_le _, hc⟩, fun i x hi => by cases hi⟩)
            have hr3h := Lib.hid hre3
            have hm2h := Lib.hid hme2
            clear hre2 hme2 hre3
            gi_wp2
            · refine hQQ.out _ _ _ ?_
              simp only [Exit.then, Exit.inBlock]
              go_roundw
              case rel => exact hr3h.out _ _ (Nat.zero_le _)
              case measure => exact hm2h.out _ _
            · refine hQQ.out _ _ _ ?_
              simp only [Exit.then, Exit.inBlock]
              go_roundw
              case rel => exact hr3h.out _ _ (by omega)
              case measure => exact hm2h.out _ _
    · have hR : R = [] := List.eq_nil_of_length_eq_zero (by omega)
      subst hR
      have hk : (grp m L).length ≤ k := by
        have e : grp j ([] : List Lf) = [] := by cases j <;> rfl
        rw [e] at hdr
        exact List.drop_eq_nil_iff.1 hdr
      obtain rfl : k = (grp m L).length := by omega
      gi_wp2
      go_end0
      exact ⟨⟨_, rfl⟩, hJ⟩
end Go.Proofs.YtijidnhaijdfaaaGreatDoor
