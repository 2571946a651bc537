/-
  Texts of one proof, one behind the other. Conditions: each text's own line says them.
-/
import Derived.Test.YtcdjdnbdblpofaaDoorPL28
import Derived.Test.YtcdjdnbdblpofaaDoorPL25

/- The document's state: its changes as cells, how its blocks say what it is. Conditions: none. -/
namespace Go.Proofs.YtcdjdnbdblpofaaDoor
open Go.RowKit Go.Maps
set_option linter.unusedSimpArgs false
set_option linter.unusedVariables false

/-- No log. -/
def Lg.nil : Lg := ⟨⟨#[]⟩, none, 0, 0, ⟨#[]⟩, []⟩
/-- A change's fields. -/
def Chg.ki : Chg → Nat
  | .save _ _ => 1
  | .brief _ _ => 2
  | .move _ _ _ => 3
  | .warm _ => 4
  | .cell _ => 5
  | .note _ => 6
def Chg.fr : Chg → ByteArray
  | .save p _ => p.1
  | .brief p _ => p.1
  | .move f _ _ => f
  | .warm a => a
  | .cell p => p.1
  | .note _ => ⟨#[]⟩
def Chg.to : Chg → ByteArray
  | .move _ t _ => t
  | _ => ⟨#[]⟩
def Chg.ke : Chg → Nat
  | .save p _ => p.2
  | .brief p _ => p.2
  | .cell p => p.2
  | _ => 0
def Chg.va : Chg → Nat
  | .save _ v => v
  | .brief _ v => v
  | .move _ _ n => n
  | _ => 0
def Chg.lo : Chg → Lg
  | .note l => l
  | _ => Lg.nil
/-- The cells of a change with these fields. -/
def chV (ki : Int) (fr to : ByteArray) (ke va : Nat) (l : Lg) : List Value :=
  [.int .i64 ki, .string fr, .string to, .int .u64 (lb ke 0 : Nat), .int .u64 (lb ke 1 : Nat), .int .u64 (lb ke 2 : Nat), .int .u64 (lb ke 3 : Nat), .int .u64 (lb va 0 : Nat), .int .u64 (lb va 1 : Nat), .int .u64 (lb va 2 : Nat), .int .u64 (lb va 3 : Nat), .string l.ad, .slice l.tp l.tn l.tc, .string l.dt]
def Chg.c (c : Chg) : List Value := chV c.ki c.fr c.to c.ke c.va c.lo
/-- The cells of a list of changes. -/
def chC (l : List Chg) : List Value := l.flatMap Chg.c
theorem chC_length (l : List Chg) : (chC l).length = l.length * 14 := by
  induction l with
  | nil => rfl
  | cons x r ih =>
    show (x.c ++ chC r).length = _
    rw [List.length_append, ih, List.length_cons]
    show 14 + _ = _
    omega
theorem chC_at {l : List Chg} {i : Nat} {x : Chg} (h : l[i]? = some x) {j : Nat} (hj : j < 14) : (chC l)[i * 14 + j]? = x.c[j]? := by
  induction l generalizing i with
  | nil => cases h
  | cons y r ih =>
    cases i with
    | zero =>
      simp at h
      subst h
      show (y.c ++ chC r)[0 * 14 + j]? = _
      rw [Nat.zero_mul, Nat.zero_add, List.getElem?_append_left (by show j < 14; exact hj)]
    | succ i =>
      have h' : r[i]? = some x := by simpa using h
      show (y.c ++ chC r)[(i + 1) * 14 + j]? = _
      rw [show (i + 1) * 14 + j = y.c.length + (i * 14 + j) by show _ = 14 + _; omega, List.getElem?_append_right (by omega), Nat.add_sub_cancel_left]
      exact ih h'
theorem chC_one (l : List Chg) : ∀ u ∈ chC l, u.oneCell' = true := by
  intro u hu
  unfold chC at hu
  obtain ⟨x, _, hx⟩ := List.mem_flatMap.1 hu
  simp [Chg.c, chV] at hx
  rcases hx with rfl | rfl | rfl | rfl | rfl | rfl | rfl | rfl | rfl | rfl | rfl | rfl | rfl | rfl <;> rfl
theorem chC_push (R : List Chg) (c : Chg) : chC (c :: R).reverse = chC R.reverse ++ c.c := by
  unfold chC
  rw [List.reverse_cons, List.flatMap_append]
  simp
theorem rev_at {R : List Chg} {i : Nat} (hi : i < R.length) : ∃ c, R.reverse[i]? = some c ∧ R.drop (R.length - 1 - i) = c :: R.drop (R.length - i) := by
  refine ⟨R[R.length - 1 - i], ?_, ?_⟩
  · rw [List.getElem?_reverse hi, List.getElem?_eq_getElem]
  · rw [List.drop_eq_getElem_cons (by omega), show R.length - 1 - i + 1 = R.length - i by omega]

/-- The document's state; lv: what is known. -/
structure RRep (W : World) (G : Nat → Prop) (q : Nat) (lv : Value) (R : List Chg) : Prop where
  glt : ∀ k, G k → k < W.heap.size
  gq : G q
  st : ∃ cv, W.heap[q]? = some (.cells #[lv, cv] 91 (0, 0)) ∧ W.ownsRow 0 94 14 cv R.length (chC R.reverse) ∧ ∀ k, cv.ownBlock = some k → G k
theorem RRep.same {W W' : World} {G : Nat → Prop} {q : Nat} {lv : Value} {R : List Chg} (h : RRep W G q lv R) (hs : W.heap.size ≤ W'.heap.size) (hb : ∀ k, G k → W'.heap[k]? = W.heap[k]?) : RRep W' G q lv R := by
  obtain ⟨cv, h1, h2, h3⟩ := h.st
  exact ⟨fun k hk => Nat.lt_of_lt_of_le (h.glt k hk) hs, h.gq, cv, (hb q h.gq).trans h1, ownsRow_same h2 fun k hk => hb k (h3 k hk), h3⟩
theorem RRep.below {W W' : World} {G : Nat → Prop} {q : Nat} {lv : Value} {R : List Chg} (h : RRep W G q lv R) (hb : Below W.heap.size W W') : RRep W' G q lv R := h.same hb.size fun k hk => hb.block k (h.glt k hk)
theorem RRep.mono {W : World} {G G' : Nat → Prop} {q : Nat} {lv : Value} {R : List Chg} (h : RRep W G q lv R) (hG : ∀ k, G k → G' k) (hG' : ∀ k, G' k → k < W.heap.size) : RRep W G' q lv R := by
  obtain ⟨cv, h1, h2, h3⟩ := h.st
  exact ⟨hG', hG q h.gq, cv, h1, h2, fun k hk => hG k (h3 k hk)⟩
theorem RRep.cells {W : World} {G : Nat → Prop} {q : Nat} {lv : Value} {R : List Chg} (h : RRep W G q lv R) : ∃ g cap, W.heap[q]? = some (.cells #[lv, .slice g R.length cap] 91 (0, 0)) ∧ W.cell? ⟨q, 0, none⟩ = some lv ∧ W.cell? ⟨q, 1, none⟩ = some (.slice g R.length cap) ∧
    W.ownsRow 0 94 14 (.slice g R.length cap) R.length (chC R.reverse) ∧ (∀ k, (Value.slice g R.length cap).ownBlock = some k → G k) ∧ (R.length ≤ cap ∧ cap ≤ maxLen) ∧ (0 < R.length → ∃ gb, g = some ⟨gb, 0, none⟩ ∧ gb < W.heap.size) ∧
    ∀ i c, R.reverse[i]? = some c → ∀ j u, c.c[j]? = some u → ∃ gb, g = some ⟨gb, 0, none⟩ ∧ W.cell? ⟨gb, i * 14 + j, none⟩ = some u := by
  obtain ⟨cv, h1, h2, h3⟩ := h.st
  obtain ⟨g, cap, rfl⟩ : ∃ g cap, cv = .slice g R.length cap := by
    rcases h2.2 with ⟨rfl, h0⟩ | ⟨g, cap, cur, rfl, _⟩
    · exact ⟨none, 0, by rw [h0]⟩
    · exact ⟨_, _, rfl⟩
  have hcap : R.length ≤ cap ∧ cap ≤ maxLen := by
    rcases h2.2 with ⟨h0, h00⟩ | ⟨g2, cap2, _, h0, _, _, h3, h4, _⟩
    · simp only [Value.slice.injEq] at h0
      obtain ⟨_, _, rfl⟩ := h0
      exact ⟨by omega, by decide⟩
    · simp only [Value.slice.injEq] at h0
      obtain ⟨_, _, rfl⟩ := h0
      exact ⟨h3, h4⟩
  have hg : 0 < R.length → ∃ gb, g = some ⟨gb, 0, none⟩ ∧ gb < W.heap.size := fun h0 => by
    rcases h2.2 with ⟨_, h00⟩ | ⟨g2, cap2, cur, he, _, hh, _⟩
    · omega
    · simp only [Value.slice.injEq] at he
      exact ⟨g2, he.1, (Array.getElem?_eq_some_iff.1 hh).1⟩
  refine ⟨g, cap, h1, by simp [World.cell?, h1], by simp [World.cell?, h1], h2, h3, hcap, hg, fun i c hi j u hu => ?_⟩
  have hi2 := (List.getElem?_eq_some_iff.1 hi).1
  rw [List.length_reverse] at hi2
  obtain ⟨gb, rfl, _⟩ := hg (by omega)
  have hj : j < 14 := (List.getElem?_eq_some_iff.1 hu).1
  have hl := chC_length R.reverse
  rw [List.length_reverse] at hl
  refine ⟨gb, rfl, ?_⟩
  rw [h2.cellAt (i * 14 + j) (by omega), chC_at hi hj]
  exact hu

theorem st_set1 {W : World} {q : Nat} {lv cv : Value} {t : TypeId} (h : W.heap[q]? = some (.cells #[lv, cv] t (0, 0))) (u : Value) : (W.setCell ⟨q, 1, none⟩ u).heap[q]? = some (.cells #[lv, u] t (0, 0)) := by
  obtain ⟨hlt, hk⟩ := Array.getElem?_eq_some_iff.1 h
  show (W.heap.modify q _)[q]? = _
  rw [Array.getElem?_eq_getElem (by rw [Array.size_modify]; exact hlt), Array.getElem_modify_self, hk]
  rfl
/-- What last finds. -/
def laF (kind : Nat) : List Chg → ByteArray × Nat → Option Nat
  | [], _ => none
  | c :: R, p => if c.ki = kind ∧ c.fr = p.1 ∧ c.ke = p.2 then some c.va else laF kind R p
theorem laF_1 : ∀ (R : List Chg) (p : ByteArray × Nat), laF 1 R p = svF R p
  | [], _ => rfl
  | c :: R, p => by
    have ih := laF_1 R p
    unfold laF
    cases c <;> simp [Chg.ki, Chg.fr, Chg.ke, Chg.va, svF, ih]
    rename_i p' v
    by_cases h : p = p'
    · subst h; simp
    · have : ¬ (p'.1 = p.1 ∧ p'.2 = p.2) := fun e => h (Prod.ext e.1.symm e.2.symm)
      rw [if_neg this, if_neg h]
theorem laF_2 : ∀ (R : List Chg) (p : ByteArray × Nat), laF 2 R p = brF R p
  | [], _ => rfl
  | c :: R, p => by
    have ih := laF_2 R p
    unfold laF
    cases c <;> simp [Chg.ki, Chg.fr, Chg.ke, Chg.va, brF, ih]
    rename_i p' v
    by_cases h : p = p'
    · subst h; simp
    · have : ¬ (p'.1 = p.1 ∧ p'.2 = p.2) := fun e => h (Prod.ext e.1.symm e.2.symm)
      rw [if_neg this, if_neg h]
theorem laF_4 : ∀ (R : List Chg) (a : ByteArray), (laF 4 R (a, 0)).isSome = wmF R a
  | [], _ => rfl
  | c :: R, a => by
    have ih := laF_4 R a
    unfold laF
    cases c <;> simp [Chg.ki, Chg.fr, Chg.ke, Chg.va, wmF, ih]
    rename_i a'
    by_cases h : a' = a
    · subst h; simp
    · have h' : ¬ a = a' := fun e => h e.symm
      rw [if_neg h, ih]
      simp [h']
theorem laF_5 : ∀ (R : List Chg) (p : ByteArray × Nat), (laF 5 R p).isSome = ceF R p
  | [], _ => rfl
  | c :: R, p => by
    have ih := laF_5 R p
    unfold laF
    cases c <;> simp [Chg.ki, Chg.fr, Chg.ke, Chg.va, ceF, ih]
    rename_i p'
    by_cases h : p = p'
    · subst h; simp
    · have : ¬ (p'.1 = p.1 ∧ p'.2 = p.2) := fun e => h (Prod.ext e.1.symm e.2.symm)
      rw [if_neg this, ih]
      simp [h]

/-- What a call that may change the document's state leaves. -/
def mrPost (W : World) (G : Nat → Prop) (q : Nat) (lv : Value) (R : List Chg) (v : Value) (e : Ending) (w' : World) : Prop :=
  e = .returned v ∧ ∃ G', RRep w' G' q lv R ∧ Fr G W w' ∧ (∀ k, G k → G' k) ∧ ∀ k, G' k → G k ∨ W.heap.size ≤ k
end Go.Proofs.YtcdjdnbdblpofaaDoor

/- What the document's state knows of an address: find; and how many changes there were: Mark. Conditions: the blocks say what it is. -/
namespace Go.Proofs.YtcdjdnbdblpofaaDoor
open Go.RowKit Go.Maps
attribute [local go_sem] leftBy leaves
set_option linter.unusedSimpArgs false
set_option linter.unusedVariables false


theorem kfind_take_none {L : List Kw} {a : ByteArray} {i : Nat} {K : Kw} (h : kfind (L.take i) a = none) (hK : L[i]? = some K) : kfind (L.take (i + 1)) a = if K.ad = a then some K else none := by
  have hi := (List.getElem?_eq_some_iff.1 hK).1
  unfold kfind at *
  rw [List.take_succ_eq_append_getElem hi, (List.getElem?_eq_some_iff.1 hK).2, List.find?_append, h, Option.none_or, List.find?_cons]
  by_cases e : K.ad = a
  · rw [if_pos e, decide_eq_true e]
  · rw [if_neg e, decide_eq_false e]
    rfl
theorem kfind_take {L : List Kw} {a : ByteArray} {i : Nat} {K : Kw} (h : kfind (L.take i) a = some K) : kfind L a = some K := by
  unfold kfind at *
  rw [← List.take_append_drop i L, List.find?_append, h]
  rfl

section
variable {W : World} {G : Nat → Prop} {q : Nat} {lv : Value} {L : List Kw} {R : List Chg}

set_option maxRecDepth 100000 in
set_option maxHeartbeats 8000000 in
theorem Mark_R (h : RRep W G q lv R) : Calls Tryd.prog 28 #[ptr q] W fun e w' => e = .returned (.int .i64 R.length) ∧ Below W.heap.size W w' := by
  obtain ⟨g, cap, hb, c0, c1, _⟩ := h.cells
  have hlt := (Array.getElem?_eq_some_iff.1 hb).1
  unfold ptr
  go_enter Tryd.func28, Tryd.ntmps28
  go_wp2
  go_ret
  exact ⟨rfl, Below.refl _ _⟩


set_option maxRecDepth 100000 in
set_option maxHeartbeats 8000000 in
theorem find_R (h : RRep W G q lv R) (hk : knL W lv L) (a : ByteArray) :
    Calls Tryd.prog 74 #[ptr q, .string a] W fun e w' => e = .returned (.tuple #[((kfind L a).map Kw.v).getD Kn.zero.v, .bool (kfind L a).isSome]) ∧ Below W.heap.size W w' := by
  obtain ⟨g, cap, hb, c0, _⟩ := h.cells
  obtain ⟨sa, sc, rfl, hn1, hn2, hcell⟩ := hk
  unfold maxLen at hn2
  have hlt := (Array.getElem?_eq_some_iff.1 hb).1
  have HC := Lib.hid hcell
  have hn3 : L.length ≤ 9223372036854775807 := by omega
  clear hcell h
  unfold ptr
  go_enter Tryd.func74, Tryd.ntmps74
  go_wp2
  have b1 : Below W.heap.size W (W.alloc (.cells #[.string ⟨#[]⟩, .bool false, .int .u64 0, .int .u64 0, .int .u64 0, .int .u64 0, .int .u64 0, .string ⟨#[]⟩, .string ⟨#[]⟩, .bool false, .string ⟨#[]⟩, .slice none 0 0] 65)) := (Below.refl _ W).alloc (Nat.le_refl _) _
  have e0 := (b1.cell (p := ⟨q, 0, none⟩) hlt).trans c0
  go_loopw [6] (fun v wr => ∃ i : Nat, i ≤ L.length ∧ v = .int .i64 (i : Nat) ∧ kfind (L.take i) a = none ∧ wr = W.alloc (.cells #[.string ⟨#[]⟩, .bool false, .int .u64 0, .int .u64 0, .int .u64 0, .int .u64 0, .int .u64 0, .string ⟨#[]⟩, .string ⟨#[]⟩, .bool false, .string ⟨#[]⟩, .slice none 0 0] 65)) (fun v _ => L.length - (intOf v).toNat)
  case atStart => exact ⟨0, Nat.zero_le _, rfl, rfl, rfl⟩
  case round =>
    obtain ⟨i, hi, rfl, hno, rfl⟩ := hrel
    by_cases hli : i < L.length
    · obtain ⟨K, hK⟩ : ∃ K, L[i]? = some K := ⟨_, List.getElem?_eq_getElem hli⟩
      obtain ⟨bl, o, rfl, hc⟩ := HC.out i K hK
      have hf := kfind_take_none hno hK
      have hbl := cell_lt (hc 0 _ rfl)
      dsimp only at hbl
      have hc2 := fun j u hu => (b1.cell (p := ⟨bl, o + i * 12 + j, none⟩) hbl).trans (hc j u hu)
      have g0 : _ = some (Value.string K.ad) := hc2 0 _ rfl
      have g1 : _ = some (Value.bool K.th) := hc2 1 _ rfl
      have g2 : _ = some (Value.int .u64 K.no) := hc2 2 _ rfl
      have g3 : _ = some (Value.int .u64 (lb K.ba 0 : Nat)) := hc2 3 _ rfl
      have g4 : _ = some (Value.int .u64 (lb K.ba 1 : Nat)) := hc2 4 _ rfl
      have g5 : _ = some (Value.int .u64 (lb K.ba 2 : Nat)) := hc2 5 _ rfl
      have g6 : _ = some (Value.int .u64 (lb K.ba 3 : Nat)) := hc2 6 _ rfl
      have g7 : _ = some (Value.string K.rt) := hc2 7 _ rfl
      have g8 : _ = some (Value.string K.cd) := hc2 8 _ rfl
      have g9 : _ = some (Value.bool K.hs) := hc2 9 _ rfl
      have g10 : _ = some (Value.string K.co) := hc2 10 _ rfl
      have g11 : _ = some (Value.slice K.cp K.cn K.cc) := hc2 11 _ rfl
      rw [Nat.add_zero] at g0
      clear hc hc2 hK HC
      obtain ⟨ad, th, no, ba, rt, cd, hs, co, cp, cn, cc, cs⟩ := K
      dsimp only at *
      by_cases he : ad = a
      · rw [if_pos he] at hf
        replace hf := kfind_take hf
        subst he
        clear hno
        go_wp2
        refine bodyPost_ret (by simp only [results, Tryd.results74]; go_simp; try rfl) rfl ⟨by rw [hf]; rfl, ?_⟩
        repeat (with_reducible first | exact Below.refl _ _ | assumption | refine below_drewN ?_ _ | refine Below.drew ?_ | refine Below.setCell ?_ (by first | omega | (simp; done) | (simp; omega)) _ | refine Below.alloc ?_ (by first | omega | (simp; done) | (simp; omega)) _ | refine Below.trans ?_ (Below.mono (by assumption) (by first | omega | (simp; done) | (simp; omega))))
      · rw [if_neg he] at hf
        have hq : (ad.toList == a.toList) = false := by rw [beqS]; exact decide_eq_false he
        clear hno
        go_wp2
        go_roundw
        case rel => exact ⟨i + 1, by omega, by go_num, hf, trivial⟩
        case measure => simp [intOf]; omega
    · obtain rfl : i = L.length := by omega
      rw [List.take_length] at hno
      have hf := hno
      clear hno
      go_wp2
      refine bodyPost_ret (by simp only [results, Tryd.results74]; go_simp; try rfl) rfl ⟨by rw [hf]; rfl, ?_⟩
      repeat (with_reducible first | exact Below.refl _ _ | assumption | refine below_drewN ?_ _ | refine Below.drew ?_ | refine Below.setCell ?_ (by first | omega | (simp; done) | (simp; omega)) _ | refine Below.alloc ?_ (by first | omega | (simp; done) | (simp; omega)) _ | refine Below.trans ?_ (Below.mono (by assumption) (by first | omega | (simp; done) | (simp; omega))))
end
end Go.Proofs.YtcdjdnbdblpofaaDoor

/- What the document's state saved last: last. Conditions: the blocks say what it is. -/
namespace Go.Proofs.YtcdjdnbdblpofaaDoor
open Go.RowKit Go.Maps
attribute [local go_sem] leftBy leaves eqW guardW
set_option linter.unusedSimpArgs false
set_option linter.unusedVariables false


theorem Chg.ke_lt {c : Chg} (h : c.ok) : c.ke < Q256 := by
  cases c with
  | save p v => exact h.1.2
  | brief p v => exact h.1.2
  | move f t n => exact Q256_pos
  | warm a => exact Q256_pos
  | cell p => exact h.2
  | note l => exact Q256_pos
theorem Chg.va_lt {c : Chg} (h : c.ok) : c.va < Q256 := by
  cases c with
  | save p v => exact h.2
  | brief p v => exact h.2
  | move f t n => exact h.2.2
  | warm a => exact Q256_pos
  | cell p => exact Q256_pos
  | note l => exact Q256_pos
theorem Rok.all {L : List Kw} : ∀ {R : List Chg}, Rok L R → ∀ c ∈ R, c.ok
  | [], _, c, hc => by cases hc
  | d :: R, h, c, hc => by
    rcases List.mem_cons.1 hc with rfl | hc
    · exact h.1
    · exact Rok.all h.2.2.2 c hc

theorem laF_cons (kind : Nat) (c : Chg) (R : List Chg) (p : ByteArray × Nat) : laF kind (c :: R) p = if c.ki = kind ∧ c.fr = p.1 ∧ c.ke = p.2 then some c.va else laF kind R p := rfl

section
variable {W : World} {G : Nat → Prop} {q : Nat} {lv : Value} {L : List Kw} {R : List Chg}

set_option maxRecDepth 100000 in
set_option maxHeartbeats 16000000 in
theorem last_R (h : RRep W G q lv R) (hR : R.length ≤ 1000000) (hok : ∀ c ∈ R, c.ok) (kind : Nat) (hki : kind ≤ 6) (a : ByteArray) (k : Nat) (hk : k < Q256) :
    Calls Tryd.prog 64 #[ptr q, .int .i64 (kind : Nat), .string a, W4 k] W fun e w' => e = .returned (.tuple #[W4 ((laF kind R (a, k)).getD 0), .bool (laF kind R (a, k)).isSome]) ∧ Below W.heap.size W w' := by
  obtain ⟨g, cap, hb, c0, c1, _, _, hcap, hg, hcell⟩ := h.cells
  have hlt := (Array.getElem?_eq_some_iff.1 hb).1
  have HC := Lib.hid hcell
  have HO := Lib.hid hok
  have HG := Lib.hid hg
  have hR2 : R.length ≤ 9223372036854775807 := by omega
  unfold maxLen at hcap
  clear hcell h hok hg hb c0
  unfold ptr
  go_enter Tryd.func64, Tryd.ntmps64
  go_wp2
  have b1 : Below W.heap.size W ((W.alloc (.cells #[.int .u64 (lb k 0 : Nat), .int .u64 (lb k 1 : Nat), .int .u64 (lb k 2 : Nat), .int .u64 (lb k 3 : Nat)] 25)).alloc (.cells #[.int .u64 0, .int .u64 0, .int .u64 0, .int .u64 0] 25)) := ((Below.refl _ W).alloc (Nat.le_refl _) _).alloc (by simp) _
  have kb : ((W.alloc (.cells #[.int .u64 (lb k 0 : Nat), .int .u64 (lb k 1 : Nat), .int .u64 (lb k 2 : Nat), .int .u64 (lb k 3 : Nat)] 25)).alloc (.cells #[.int .u64 0, .int .u64 0, .int .u64 0, .int .u64 0] 25)).heap[W.heap.size]? = _ := (Below.heap_alloc _ _ _ (by simp)).trans (heap_new rfl)
  have rb : ((W.alloc (.cells #[.int .u64 (lb k 0 : Nat), .int .u64 (lb k 1 : Nat), .int .u64 (lb k 2 : Nat), .int .u64 (lb k 3 : Nat)] 25)).alloc (.cells #[.int .u64 0, .int .u64 0, .int .u64 0, .int .u64 0] 25)).heap[W.heap.size + 1]? = _ := heap_new (by simp)
  have z1 : ((W.alloc (.cells #[.int .u64 (lb k 0 : Nat), .int .u64 (lb k 1 : Nat), .int .u64 (lb k 2 : Nat), .int .u64 (lb k 3 : Nat)] 25)).alloc (.cells #[.int .u64 0, .int .u64 0, .int .u64 0, .int .u64 0] 25)).heap.size = W.heap.size + 2 := by simp
  have e1 := (b1.cell (p := ⟨q, 1, none⟩) hlt).trans c1
  generalize (W.alloc (.cells #[.int .u64 (lb k 0 : Nat), .int .u64 (lb k 1 : Nat), .int .u64 (lb k 2 : Nat), .int .u64 (lb k 3 : Nat)] 25)).alloc (.cells #[.int .u64 0, .int .u64 0, .int .u64 0, .int .u64 0] 25) = W1 at *
  replace z1 := Nat.le_of_eq z1.symm
  clear c1
  go_wp2
  go_loopw [10] (fun v wr => ((∃ i : Nat, i < R.length ∧ v = .int .i64 (i : Nat) ∧ laF kind R (a, k) = laF kind (R.drop (R.length - 1 - i)) (a, k)) ∨ (v = .int .i64 (-1) ∧ laF kind R (a, k) = none)) ∧ Fr (fun _ => False) W1 wr) (fun v _ => (intOf v + 1).toNat)
  case atStart =>
    refine ⟨?_, Fr.refl _ _⟩
    by_cases hz : R.length = 0
    · exact .inr ⟨by rw [hz]; go_num, by rw [List.eq_nil_of_length_eq_zero hz]; rfl⟩
    · exact .inl ⟨R.length - 1, by omega, by go_num, by rw [show R.length - 1 - (R.length - 1) = 0 by omega]; rfl⟩
  case round =>
    obtain ⟨⟨i, hi, rfl, hla⟩ | ⟨rfl, hla⟩, hF⟩ := hrel
    · obtain ⟨c, hc, hd⟩ := rev_at hi
      rw [hd, laF_cons] at hla
      obtain ⟨gb, rfl, hgl⟩ := HG.out (by omega)
      have hcc := HC.out i c hc
      have hcm := HO.out c (List.mem_reverse.1 (List.mem_of_getElem? hc))
      have hce := Chg.ke_lt hcm
      have g := fun j u hu => (hF.cell (k := gb) (o := i * 14 + j) ((b1.cell (p := ⟨gb, i * 14 + j, none⟩) hgl).trans (by obtain ⟨gb2, e, hx⟩ := hcc j u hu; cases e; exact hx)) id (by show gb < W1.heap.size; omega))
      have g0 : _ = some (Value.int .i64 (c.ki : Nat)) := g 0 _ rfl
      have g1 : _ = some (Value.string c.fr) := g 1 _ rfl
      have g3 : _ = some (Value.int .u64 (lb c.ke 0 : Nat)) := g 3 _ rfl
      have g4 : _ = some (Value.int .u64 (lb c.ke 1 : Nat)) := g 4 _ rfl
      have g5 : _ = some (Value.int .u64 (lb c.ke 2 : Nat)) := g 5 _ rfl
      have g6 : _ = some (Value.int .u64 (lb c.ke 3 : Nat)) := g 6 _ rfl
      have g7 : _ = some (Value.int .u64 (lb c.va 0 : Nat)) := g 7 _ rfl
      have g8 : _ = some (Value.int .u64 (lb c.va 1 : Nat)) := g 8 _ rfl
      have g9 : _ = some (Value.int .u64 (lb c.va 2 : Nat)) := g 9 _ rfl
      have g10 : _ = some (Value.int .u64 (lb c.va 3 : Nat)) := g 10 _ rfl
      rw [Nat.add_zero] at g0
      have eq1 := hF.cell e1 id (by omega)
      obtain ⟨x0, x1, x2, x3⟩ := cells4w ((hF.block _ (by omega) id).trans kb)
      have rb2 := (hF.block _ (by omega) id).trans rb
      have hF2 := Lib.hid hF
      have hszr := hF.size
      clear g hcc hcm hc hF hd
      generalize c.ki = ki at *
      generalize c.fr = fr at *
      generalize c.ke = ke at *
      generalize c.va = va at *
      by_cases h1 : ki = kind
      · subst h1
        by_cases h2 : fr = a
        · subst h2
          by_cases h3 : ke = k
          · subst h3
            dsimp only at hla
            rw [if_pos ⟨rfl, rfl, rfl⟩] at hla
            go_wp2
            refine wp_flowU (fun k => ([1, 1, 1, 1, 1, 1, 1, 1, 1, 1, 1, 1, 1, 1, 1, 1, 1, 1, 1, 1, 1, 1, 1, 1, 1, 1, 1, 1, 1, 1, 1, 1, 1, 1] : List Nat).getD k 1) (fun (_ : Unit) w' => Fr (fun _ => False) wr w') (fun _ => True) (()) (Fr.drew (Fr.refl _ _)) trivial (by kernel_rfl) (by kernel_rfl) ?_
            iterate 11 ((refine flowU_readE rfl rfl (fun K hK => ?_); apply Exists.intro; apply And.intro; (focus (intro w' hR; have y1 := hR.cell eq1 id (by omega); have y3 := hR.cell g0 id (by omega); have y4 := hR.cell g1 id (by omega); have z0 := hR.cell g3 id (by omega); have z1 := hR.cell g4 id (by omega); have z2 := hR.cell g5 id (by omega); have z3 := hR.cell g6 id (by omega); have v0 := hR.cell x0 id (by omega); have v1 := hR.cell x1 id (by omega); have v2 := hR.cell x2 id (by omega); have v3 := hR.cell x3 id (by omega); clear hR; go_simp; (try go_bits); exact rfl)); go_simp; (try go_bits); refine hK _ ?_; clear hK K))
            iterate 10 (first | (refine flowU_skip rfl (fun K hK => ?_); go_simp; (try go_bits); refine hK _ ?_; clear hK K) | (refine flowU_readE rfl rfl (fun K hK => ?_); apply Exists.intro; apply And.intro; (focus (intro w' hR; have y1 := hR.cell eq1 id (by omega); have y3 := hR.cell g0 id (by omega); have y4 := hR.cell g1 id (by omega); have z0 := hR.cell g3 id (by omega); have z1 := hR.cell g4 id (by omega); have z2 := hR.cell g5 id (by omega); have z3 := hR.cell g6 id (by omega); have v0 := hR.cell x0 id (by omega); have v1 := hR.cell x1 id (by omega); have v2 := hR.cell x2 id (by omega); have v3 := hR.cell x3 id (by omega); clear hR; go_simp; (try go_bits); exact rfl)); go_simp; (try go_bits); refine hK _ ?_; clear hK K))
            iterate 2 ((refine flowU_readE rfl rfl (fun K hK => ?_); apply Exists.intro; apply And.intro; (focus (intro w' hR; have y1 := hR.cell eq1 id (by omega); have y3 := hR.cell g0 id (by omega); have y4 := hR.cell g1 id (by omega); have z0 := hR.cell g3 id (by omega); have z1 := hR.cell g4 id (by omega); have z2 := hR.cell g5 id (by omega); have z3 := hR.cell g6 id (by omega); have v0 := hR.cell x0 id (by omega); have v1 := hR.cell x1 id (by omega); have v2 := hR.cell x2 id (by omega); have v3 := hR.cell x3 id (by omega); clear hR; go_simp; (try go_bits); exact rfl)); go_simp; (try go_bits); refine hK _ ?_; clear hK K))
            iterate 10 (first | (refine flowU_skip rfl (fun K hK => ?_); go_simp; (try go_bits); refine hK _ ?_; clear hK K) | (refine flowU_readE rfl rfl (fun K hK => ?_); apply Exists.intro; apply And.intro; (focus (intro w' hR; have y1 := hR.cell eq1 id (by omega); have y3 := hR.cell g0 id (by omega); have y4 := hR.cell g1 id (by omega); have z0 := hR.cell g3 id (by omega); have z1 := hR.cell g4 id (by omega); have z2 := hR.cell g5 id (by omega); have z3 := hR.cell g6 id (by omega); have v0 := hR.cell x0 id (by omega); have v1 := hR.cell x1 id (by omega); have v2 := hR.cell x2 id (by omega); have v3 := hR.cell x3 id (by omega); clear hR; go_simp; (try go_bits); exact rfl)); go_simp; (try go_bits); refine hK _ ?_; clear hK K))
            (refine flowU_readE rfl rfl (fun K hK => ?_); apply Exists.intro; apply And.intro; (focus (intro w' hR; have y1 := hR.cell eq1 id (by omega); have y3 := hR.cell g0 id (by omega); have y4 := hR.cell g1 id (by omega); have z0 := hR.cell g3 id (by omega); have z1 := hR.cell g4 id (by omega); have z2 := hR.cell g5 id (by omega); have z3 := hR.cell g6 id (by omega); have v0 := hR.cell x0 id (by omega); have v1 := hR.cell x1 id (by omega); have v2 := hR.cell x2 id (by omega); have v3 := hR.cell x3 id (by omega); clear hR; go_simp; (try go_bits); exact rfl)); go_simp; (try go_bits); refine hK _ ?_; clear hK K)
            refine flowU_nil ?_
            intro w2 hR
            have hF3 := hF2.out.trans ⟨hR.os, hR.tape, hR.output, hR.size, hR.block⟩
            have hB : Below W.heap.size W w2 := b1.trans (hF3.toBel.mono (by omega))
            have y1 := hR.cell eq1 id (by omega)
            have y7 := hR.cell g7 id (by omega)
            have y8 := hR.cell g8 id (by omega)
            have y9 := hR.cell g9 id (by omega)
            have y10 := hR.cell g10 id (by omega)
            have rb3 := (hR.block _ (by omega) id).trans rb2
            obtain ⟨q0, q1, q2, q3⟩ := cells4w rb3
            have qf : ∀ j, w2.frozen? ⟨W.heap.size + 1, j, none⟩ = false := fun j => by simp [World.frozen?, rb3]
            clear hR hF3 eq1 g7 g8 g9 g10 rb2 rb3
            go_wp2
            refine bodyPost_ret (by simp only [results, Tryd.results64]; go_simp; try rfl) rfl ⟨by rw [hla]; rfl, ?_⟩
            exact (((hB.setCell (Nat.le_succ _) _).setCell (Nat.le_succ _) _).setCell (Nat.le_succ _) _).setCell (Nat.le_succ _) _
          · have hq3 := (eqN hce hk).trans (decide_eq_false h3)
            replace hla := hla.trans (if_neg (fun e => h3 e.2.2))
            go_wp2
            refine wp_flowU (fun k => ([1, 1, 1, 1, 1, 1, 1, 1, 1, 1, 1, 1, 1, 1, 1, 1, 1, 1, 1, 1, 1, 1, 1, 1, 1, 1, 1, 1, 1, 1, 1, 1, 1, 1] : List Nat).getD k 1) (fun (_ : Unit) w' => Fr (fun _ => False) wr w') (fun _ => True) (()) (Fr.drew (Fr.refl _ _)) trivial (by kernel_rfl) (by kernel_rfl) ?_
            iterate 11 ((refine flowU_readE rfl rfl (fun K hK => ?_); apply Exists.intro; apply And.intro; (focus (intro w' hR; have y1 := hR.cell eq1 id (by omega); have y3 := hR.cell g0 id (by omega); have y4 := hR.cell g1 id (by omega); have z0 := hR.cell g3 id (by omega); have z1 := hR.cell g4 id (by omega); have z2 := hR.cell g5 id (by omega); have z3 := hR.cell g6 id (by omega); have v0 := hR.cell x0 id (by omega); have v1 := hR.cell x1 id (by omega); have v2 := hR.cell x2 id (by omega); have v3 := hR.cell x3 id (by omega); clear hR; go_simp; (try go_bits); exact rfl)); go_simp; (try go_bits); refine hK _ ?_; clear hK K))
            iterate 10 (first | (refine flowU_skip rfl (fun K hK => ?_); go_simp; (try go_bits); refine hK _ ?_; clear hK K) | (refine flowU_readE rfl rfl (fun K hK => ?_); apply Exists.intro; apply And.intro; (focus (intro w' hR; have y1 := hR.cell eq1 id (by omega); have y3 := hR.cell g0 id (by omega); have y4 := hR.cell g1 id (by omega); have z0 := hR.cell g3 id (by omega); have z1 := hR.cell g4 id (by omega); have z2 := hR.cell g5 id (by omega); have z3 := hR.cell g6 id (by omega); have v0 := hR.cell x0 id (by omega); have v1 := hR.cell x1 id (by omega); have v2 := hR.cell x2 id (by omega); have v3 := hR.cell x3 id (by omega); clear hR; go_simp; (try go_bits); exact rfl)); go_simp; (try go_bits); refine hK _ ?_; clear hK K))
            iterate 2 ((refine flowU_readE rfl rfl (fun K hK => ?_); apply Exists.intro; apply And.intro; (focus (intro w' hR; have y1 := hR.cell eq1 id (by omega); have y3 := hR.cell g0 id (by omega); have y4 := hR.cell g1 id (by omega); have z0 := hR.cell g3 id (by omega); have z1 := hR.cell g4 id (by omega); have z2 := hR.cell g5 id (by omega); have z3 := hR.cell g6 id (by omega); have v0 := hR.cell x0 id (by omega); have v1 := hR.cell x1 id (by omega); have v2 := hR.cell x2 id (by omega); have v3 := hR.cell x3 id (by omega); clear hR; go_simp; (try go_bits); exact rfl)); go_simp; (try go_bits); refine hK _ ?_; clear hK K))
            iterate 10 (first | (refine flowU_skip rfl (fun K hK => ?_); go_simp; (try go_bits); refine hK _ ?_; clear hK K) | (refine flowU_readE rfl rfl (fun K hK => ?_); apply Exists.intro; apply And.intro; (focus (intro w' hR; have y1 := hR.cell eq1 id (by omega); have y3 := hR.cell g0 id (by omega); have y4 := hR.cell g1 id (by omega); have z0 := hR.cell g3 id (by omega); have z1 := hR.cell g4 id (by omega); have z2 := hR.cell g5 id (by omega); have z3 := hR.cell g6 id (by omega); have v0 := hR.cell x0 id (by omega); have v1 := hR.cell x1 id (by omega); have v2 := hR.cell x2 id (by omega); have v3 := hR.cell x3 id (by omega); clear hR; go_simp; (try go_bits); exact rfl)); go_simp; (try go_bits); refine hK _ ?_; clear hK K))
            (refine flowU_readE rfl rfl (fun K hK => ?_); apply Exists.intro; apply And.intro; (focus (intro w' hR; have y1 := hR.cell eq1 id (by omega); have y3 := hR.cell g0 id (by omega); have y4 := hR.cell g1 id (by omega); have z0 := hR.cell g3 id (by omega); have z1 := hR.cell g4 id (by omega); have z2 := hR.cell g5 id (by omega); have z3 := hR.cell g6 id (by omega); have v0 := hR.cell x0 id (by omega); have v1 := hR.cell x1 id (by omega); have v2 := hR.cell x2 id (by omega); have v3 := hR.cell x3 id (by omega); clear hR; go_simp; (try go_bits); exact rfl)); go_simp; (try go_bits); refine hK _ ?_; clear hK K)
            refine flowU_nil ?_
            intro w2 hR
            have HF3 := Lib.hid (hF2.out.trans ⟨hR.os, hR.tape, hR.output, hR.size, hR.block⟩)
            clear hR hF2
            go_wp2
            go_roundw
            case rel =>
              refine ⟨?_, HF3.out⟩
              rcases i with _ | i
              · exact .inr ⟨by go_num, hla.trans (by rw [Nat.sub_zero, List.drop_length]; rfl)⟩
              · exact .inl ⟨i, by omega, by go_num, by rw [hla, show R.length - (i + 1) = R.length - 1 - i by omega]⟩
            case measure => simp [intOf]
        · have hq2 : (fr.toList == a.toList) = false := by rw [beqS]; exact decide_eq_false h2
          replace hla := hla.trans (if_neg (fun e => h2 e.2.1))
          go_wp2
          refine wp_flowU (fun k => ([1, 1, 1, 1, 1, 1, 1, 1, 1, 1, 1, 1, 1, 1, 1, 1, 1, 1, 1, 1, 1, 1, 1, 1, 1, 1, 1, 1, 1, 1, 1, 1, 1, 1] : List Nat).getD k 1) (fun (_ : Unit) w' => Fr (fun _ => False) wr w') (fun _ => True) (()) (Fr.drew (Fr.refl _ _)) trivial (by kernel_rfl) (by kernel_rfl) ?_
          iterate 11 ((refine flowU_readE rfl rfl (fun K hK => ?_); apply Exists.intro; apply And.intro; (focus (intro w' hR; have y1 := hR.cell eq1 id (by omega); have y3 := hR.cell g0 id (by omega); have y4 := hR.cell g1 id (by omega); have z0 := hR.cell g3 id (by omega); have z1 := hR.cell g4 id (by omega); have z2 := hR.cell g5 id (by omega); have z3 := hR.cell g6 id (by omega); have v0 := hR.cell x0 id (by omega); have v1 := hR.cell x1 id (by omega); have v2 := hR.cell x2 id (by omega); have v3 := hR.cell x3 id (by omega); clear hR; go_simp; (try go_bits); exact rfl)); go_simp; (try go_bits); refine hK _ ?_; clear hK K))
          iterate 10 (first | (refine flowU_skip rfl (fun K hK => ?_); go_simp; (try go_bits); refine hK _ ?_; clear hK K) | (refine flowU_readE rfl rfl (fun K hK => ?_); apply Exists.intro; apply And.intro; (focus (intro w' hR; have y1 := hR.cell eq1 id (by omega); have y3 := hR.cell g0 id (by omega); have y4 := hR.cell g1 id (by omega); have z0 := hR.cell g3 id (by omega); have z1 := hR.cell g4 id (by omega); have z2 := hR.cell g5 id (by omega); have z3 := hR.cell g6 id (by omega); have v0 := hR.cell x0 id (by omega); have v1 := hR.cell x1 id (by omega); have v2 := hR.cell x2 id (by omega); have v3 := hR.cell x3 id (by omega); clear hR; go_simp; (try go_bits); exact rfl)); go_simp; (try go_bits); refine hK _ ?_; clear hK K))
          iterate 2 ((refine flowU_readE rfl rfl (fun K hK => ?_); apply Exists.intro; apply And.intro; (focus (intro w' hR; have y1 := hR.cell eq1 id (by omega); have y3 := hR.cell g0 id (by omega); have y4 := hR.cell g1 id (by omega); have z0 := hR.cell g3 id (by omega); have z1 := hR.cell g4 id (by omega); have z2 := hR.cell g5 id (by omega); have z3 := hR.cell g6 id (by omega); have v0 := hR.cell x0 id (by omega); have v1 := hR.cell x1 id (by omega); have v2 := hR.cell x2 id (by omega); have v3 := hR.cell x3 id (by omega); clear hR; go_simp; (try go_bits); exact rfl)); go_simp; (try go_bits); refine hK _ ?_; clear hK K))
          iterate 10 (first | (refine flowU_skip rfl (fun K hK => ?_); go_simp; (try go_bits); refine hK _ ?_; clear hK K) | (refine flowU_readE rfl rfl (fun K hK => ?_); apply Exists.intro; apply And.intro; (focus (intro w' hR; have y1 := hR.cell eq1 id (by omega); have y3 := hR.cell g0 id (by omega); have y4 := hR.cell g1 id (by omega); have z0 := hR.cell g3 id (by omega); have z1 := hR.cell g4 id (by omega); have z2 := hR.cell g5 id (by omega); have z3 := hR.cell g6 id (by omega); have v0 := hR.cell x0 id (by omega); have v1 := hR.cell x1 id (by omega); have v2 := hR.cell x2 id (by omega); have v3 := hR.cell x3 id (by omega); clear hR; go_simp; (try go_bits); exact rfl)); go_simp; (try go_bits); refine hK _ ?_; clear hK K))
          (refine flowU_readE rfl rfl (fun K hK => ?_); apply Exists.intro; apply And.intro; (focus (intro w' hR; have y1 := hR.cell eq1 id (by omega); have y3 := hR.cell g0 id (by omega); have y4 := hR.cell g1 id (by omega); have z0 := hR.cell g3 id (by omega); have z1 := hR.cell g4 id (by omega); have z2 := hR.cell g5 id (by omega); have z3 := hR.cell g6 id (by omega); have v0 := hR.cell x0 id (by omega); have v1 := hR.cell x1 id (by omega); have v2 := hR.cell x2 id (by omega); have v3 := hR.cell x3 id (by omega); clear hR; go_simp; (try go_bits); exact rfl)); go_simp; (try go_bits); refine hK _ ?_; clear hK K)
          refine flowU_nil ?_
          intro w2 hR
          have HF3 := Lib.hid (hF2.out.trans ⟨hR.os, hR.tape, hR.output, hR.size, hR.block⟩)
          clear hR hF2
          go_wp2
          go_roundw
          case rel =>
            refine ⟨?_, HF3.out⟩
            rcases i with _ | i
            · exact .inr ⟨by go_num, hla.trans (by rw [Nat.sub_zero, List.drop_length]; rfl)⟩
            · exact .inl ⟨i, by omega, by go_num, by rw [hla, show R.length - (i + 1) = R.length - 1 - i by omega]⟩
          case measure => simp [intOf]
      · have hq1 : (((ki : Nat) : Int) == ((kind : Nat) : Int)) = false := by simp only [beq_eq_false_iff_ne, ne_eq, Int.natCast_inj]; exact h1
        replace hla := hla.trans (if_neg (fun e => h1 e.1))
        go_wp2
        refine wp_flowU (fun k => ([1, 1, 1, 1, 1, 1, 1, 1, 1, 1, 1, 1, 1, 1, 1, 1, 1, 1, 1, 1, 1, 1, 1, 1, 1, 1, 1, 1, 1, 1, 1, 1, 1, 1] : List Nat).getD k 1) (fun (_ : Unit) w' => Fr (fun _ => False) wr w') (fun _ => True) (()) (Fr.drew (Fr.refl _ _)) trivial (by kernel_rfl) (by kernel_rfl) ?_
        iterate 11 ((refine flowU_readE rfl rfl (fun K hK => ?_); apply Exists.intro; apply And.intro; (focus (intro w' hR; have y1 := hR.cell eq1 id (by omega); have y3 := hR.cell g0 id (by omega); have y4 := hR.cell g1 id (by omega); have z0 := hR.cell g3 id (by omega); have z1 := hR.cell g4 id (by omega); have z2 := hR.cell g5 id (by omega); have z3 := hR.cell g6 id (by omega); have v0 := hR.cell x0 id (by omega); have v1 := hR.cell x1 id (by omega); have v2 := hR.cell x2 id (by omega); have v3 := hR.cell x3 id (by omega); clear hR; go_simp; (try go_bits); exact rfl)); go_simp; (try go_bits); refine hK _ ?_; clear hK K))
        iterate 10 (first | (refine flowU_skip rfl (fun K hK => ?_); go_simp; (try go_bits); refine hK _ ?_; clear hK K) | (refine flowU_readE rfl rfl (fun K hK => ?_); apply Exists.intro; apply And.intro; (focus (intro w' hR; have y1 := hR.cell eq1 id (by omega); have y3 := hR.cell g0 id (by omega); have y4 := hR.cell g1 id (by omega); have z0 := hR.cell g3 id (by omega); have z1 := hR.cell g4 id (by omega); have z2 := hR.cell g5 id (by omega); have z3 := hR.cell g6 id (by omega); have v0 := hR.cell x0 id (by omega); have v1 := hR.cell x1 id (by omega); have v2 := hR.cell x2 id (by omega); have v3 := hR.cell x3 id (by omega); clear hR; go_simp; (try go_bits); exact rfl)); go_simp; (try go_bits); refine hK _ ?_; clear hK K))
        iterate 2 ((refine flowU_readE rfl rfl (fun K hK => ?_); apply Exists.intro; apply And.intro; (focus (intro w' hR; have y1 := hR.cell eq1 id (by omega); have y3 := hR.cell g0 id (by omega); have y4 := hR.cell g1 id (by omega); have z0 := hR.cell g3 id (by omega); have z1 := hR.cell g4 id (by omega); have z2 := hR.cell g5 id (by omega); have z3 := hR.cell g6 id (by omega); have v0 := hR.cell x0 id (by omega); have v1 := hR.cell x1 id (by omega); have v2 := hR.cell x2 id (by omega); have v3 := hR.cell x3 id (by omega); clear hR; go_simp; (try go_bits); exact rfl)); go_simp; (try go_bits); refine hK _ ?_; clear hK K))
        iterate 10 (first | (refine flowU_skip rfl (fun K hK => ?_); go_simp; (try go_bits); refine hK _ ?_; clear hK K) | (refine flowU_readE rfl rfl (fun K hK => ?_); apply Exists.intro; apply And.intro; (focus (intro w' hR; have y1 := hR.cell eq1 id (by omega); have y3 := hR.cell g0 id (by omega); have y4 := hR.cell g1 id (by omega); have z0 := hR.cell g3 id (by omega); have z1 := hR.cell g4 id (by omega); have z2 := hR.cell g5 id (by omega); have z3 := hR.cell g6 id (by omega); have v0 := hR.cell x0 id (by omega); have v1 := hR.cell x1 id (by omega); have v2 := hR.cell x2 id (by omega); have v3 := hR.cell x3 id (by omega); clear hR; go_simp; (try go_bits); exact rfl)); go_simp; (try go_bits); refine hK _ ?_; clear hK K))
        (refine flowU_readE rfl rfl (fun K hK => ?_); apply Exists.intro; apply And.intro; (focus (intro w' hR; have y1 := hR.cell eq1 id (by omega); have y3 := hR.cell g0 id (by omega); have y4 := hR.cell g1 id (by omega); have z0 := hR.cell g3 id (by omega); have z1 := hR.cell g4 id (by omega); have z2 := hR.cell g5 id (by omega); have z3 := hR.cell g6 id (by omega); have v0 := hR.cell x0 id (by omega); have v1 := hR.cell x1 id (by omega); have v2 := hR.cell x2 id (by omega); have v3 := hR.cell x3 id (by omega); clear hR; go_simp; (try go_bits); exact rfl)); go_simp; (try go_bits); refine hK _ ?_; clear hK K)
        refine flowU_nil ?_
        intro w2 hR
        have HF3 := Lib.hid (hF2.out.trans ⟨hR.os, hR.tape, hR.output, hR.size, hR.block⟩)
        clear hR hF2
        go_wp2
        go_roundw
        case rel =>
          refine ⟨?_, HF3.out⟩
          rcases i with _ | i
          · exact .inr ⟨by go_num, hla.trans (by rw [Nat.sub_zero, List.drop_length]; rfl)⟩
          · exact .inl ⟨i, by omega, by go_num, by rw [hla, show R.length - (i + 1) = R.length - 1 - i by omega]⟩
        case measure => simp [intOf]
    · have rb2 := (hF.block _ (by omega) id).trans rb
      obtain ⟨q0, q1, q2, q3⟩ := cells4w rb2
      have qf : ∀ j, wr.frozen? ⟨W.heap.size + 1, j, none⟩ = false := fun j => by simp [World.frozen?, rb2]
      have hB : Below W.heap.size W wr := b1.trans (hF.toBel.mono (by omega))
      have HF := Lib.hid hF
      clear hF
      go_wp2
      refine bodyPost_ret (by simp only [results, Tryd.results64]; go_simp; try rfl) rfl ⟨by rw [hla]; rfl, ?_⟩
      exact (((hB.setCell (Nat.le_succ _) _).setCell (Nat.le_succ _) _).setCell (Nat.le_succ _) _).setCell (Nat.le_succ _) _
end
end Go.Proofs.YtcdjdnbdblpofaaDoor

/- What the document's state answers: Code, Digest, Brief. Conditions: the blocks say what it is; what is known is right. -/
namespace Go.Proofs.YtcdjdnbdblpofaaDoor
open Go.RowKit Go.Maps
attribute [local go_sem] leftBy leaves
set_option linter.unusedSimpArgs false
set_option linter.unusedVariables false


section
variable {W : World} {G : Nat → Prop} {q : Nat} {lv : Value} {L : List Kw} {R : List Chg}

theorem find_Rs (h : RRep W G q lv R) (hk : knL W lv L) {a : ByteArray} {K : Kw} (hK : kfind L a = some K) :
    Calls Tryd.prog 74 #[ptr q, .string a] W fun e w' => e = .returned (.tuple #[K.v, .bool true]) ∧ Below W.heap.size W w' := by
  have := find_R h hk a
  rw [hK] at this
  exact this
theorem find_Rn (h : RRep W G q lv R) (hk : knL W lv L) {a : ByteArray} (hK : kfind L a = none) :
    Calls Tryd.prog 74 #[ptr q, .string a] W fun e w' => e = .returned (.tuple #[Kn.zero.v, .bool false]) ∧ Below W.heap.size W w' := by
  have := find_R h hk a
  rw [hK] at this
  exact this

set_option maxRecDepth 100000 in
set_option maxHeartbeats 4000000 in
theorem Code_R (h : RRep W G q lv R) (hk : knL W lv L) (a : ByteArray) :
    Calls Tryd.prog 65 #[ptr q, .string a] W fun e w' => e = .returned (codV L a) ∧ Below W.heap.size W w' := by
  cases hK : kfind L a with
  | none =>
    rw [show codV L a = .tuple #[.string ⟨#[]⟩, .int .i64 190] by unfold codV; rw [hK]]
    have cF := find_Rn h hk hK
    unfold Kn.v Kn.zero ptr at *
    dsimp only at cF
    go_enter Tryd.func65, Tryd.ntmps65
    go_wp2_with (go_at_call 74; refine cF.mono ?_; rintro e wa ⟨rfl, hb_wa⟩; have hc_wa := (bcell hb_wa).1; have hf_wa := (bcell hb_wa).2; have hz_wa : _ ≤ wa.heap.size := hb_wa.size; (try simp only [World.size_alloc, World.heap_drewN, World.size_setCell, heap_drew] at hc_wa hf_wa hz_wa))
    refine bodyPost_ret (by simp only [results, Tryd.results65]; go_simp; try rfl) rfl ⟨rfl, ?_⟩
    repeat (with_reducible first | exact Below.refl _ _ | assumption | refine below_drewN ?_ _ | refine Below.drew ?_ | refine Below.setCell ?_ (by first | omega | (simp; done) | (simp; omega)) _ | refine Below.alloc ?_ (by first | omega | (simp; done) | (simp; omega)) _ | refine Below.trans ?_ (Below.mono (by assumption) (by first | omega | (simp; done) | (simp; omega))))
  | some K =>
    rw [show codV L a = .tuple #[.string (codS K), .int .i64 (codE K)] by unfold codV; rw [hK]]
    have cF := find_Rs h hk hK
    have hE : ∀ w, Calls Tryd.prog 77 #[] w fun e w' => e = .returned (.agg #[.int .u64 0, .int .u64 0, .int .u64 0, .int .u64 0, .int .u64 0, .string emR, .string emC]) ∧ Below w.heap.size w w' := ref_Empty
    unfold codS codE
    generalize emR = er at *
    generalize emC = ec at *
    clear hK h hk
    obtain ⟨ad, th, no, ba, rt, cd, hs, co, cp, cn, cc, cs⟩ := K
    unfold Kw.v Kw.kn Kn.v ptr at *
    dsimp only at *
    cases th with
    | false =>
      simp only [true_or, if_true]
      go_enter Tryd.func65, Tryd.ntmps65
      go_wp2_with (go_at_call 74; refine cF.mono ?_; rintro e wa ⟨rfl, hb_wa⟩; have hc_wa := (bcell hb_wa).1; have hf_wa := (bcell hb_wa).2; have hz_wa : _ ≤ wa.heap.size := hb_wa.size; (try simp only [World.size_alloc, World.heap_drewN, World.size_setCell, heap_drew] at hc_wa hf_wa hz_wa))
      first | refine wp_flow (fun k => ([1, 1, 1, 1, 1, 1, 1, 1, 1, 1, 1] : List Nat).getD k 1) Dr _ (Dr.next _ _) (by kernel_rfl) (by kernel_rfl) ?_ | refine wp_flow (fun k => ([1, 1, 1, 1, 1, 1, 1, 1, 1, 1, 1] : List Nat).getD k 1) Dr _ (Dr.one _) (by kernel_rfl) (by kernel_rfl) ?_
      iterate 4 ((refine flow_quiet rfl rfl (fun K hK => ?_); apply Exists.intro; apply And.intro; (focus (rintro w' ⟨nn, rfl⟩; go_simp; (try go_bits); exact ⟨rfl, Dr.of _ _⟩)); go_simp; (try go_bits); refine hK _ ?_; clear hK K))
      iterate 6 (first | (refine flow_skip rfl (fun K hK => ?_); go_simp; (try go_bits); refine hK _ ?_; clear hK K) | (refine flow_quiet rfl rfl (fun K hK => ?_); apply Exists.intro; apply And.intro; (focus (rintro w' ⟨nn, rfl⟩; go_simp; (try go_bits); exact ⟨rfl, Dr.of _ _⟩)); go_simp; (try go_bits); refine hK _ ?_; clear hK K))
      (refine flow_quiet rfl rfl (fun K hK => ?_); apply Exists.intro; apply And.intro; (focus (rintro w' ⟨nn, rfl⟩; go_simp; (try go_bits); exact ⟨rfl, Dr.of _ _⟩)); go_simp; (try go_bits); refine hK _ ?_; clear hK K)
      refine flow_nil ?_
      rintro w' ⟨nq, rfl⟩
      go_wp2
      refine bodyPost_ret (by simp only [results, Tryd.results65]; go_simp; try rfl) rfl ⟨rfl, ?_⟩
      repeat (with_reducible first | exact Below.refl _ _ | assumption | refine below_drewN ?_ _ | refine Below.drew ?_ | refine Below.setCell ?_ (by first | omega | (simp; done) | (simp; omega)) _ | refine Below.alloc ?_ (by first | omega | (simp; done) | (simp; omega)) _ | refine Below.trans ?_ (Below.mono (by assumption) (by first | omega | (simp; done) | (simp; omega))))
    | true =>
      simp only [Bool.true_eq_false, false_or]
      by_cases h1 : cd = ec
      · simp only [if_pos h1]
        subst h1
        have hs1 : W.heap.size < W.heap.size + 1 := by omega
        go_enter Tryd.func65, Tryd.ntmps65
        go_wp2_with (go_at_call 74; refine cF.mono ?_; rintro e wa ⟨rfl, hb_wa⟩; have hc_wa := (bcell hb_wa).1; have hf_wa := (bcell hb_wa).2; have hz_wa : _ ≤ wa.heap.size := hb_wa.size; (try simp only [World.size_alloc, World.heap_drewN, World.size_setCell, heap_drew] at hc_wa hf_wa hz_wa))
        have kb : (wa.alloc (.cells #[.string ad, .bool true, .int .u64 no, .int .u64 (lb ba 0 : Nat), .int .u64 (lb ba 1 : Nat), .int .u64 (lb ba 2 : Nat), .int .u64 (lb ba 3 : Nat), .string rt, .string cd, .bool hs, .string co, .slice cp cn cc] 65)).heap[wa.heap.size]? = _ := heap_new rfl
        have bF : Below W.heap.size W (wa.alloc (.cells #[.string ad, .bool true, .int .u64 no, .int .u64 (lb ba 0 : Nat), .int .u64 (lb ba 1 : Nat), .int .u64 (lb ba 2 : Nat), .int .u64 (lb ba 3 : Nat), .string rt, .string cd, .bool hs, .string co, .slice cp cn cc] 65)) := hb_wa.alloc hz_wa _
        have hk1 : wa.heap.size < (wa.alloc (.cells #[.string ad, .bool true, .int .u64 no, .int .u64 (lb ba 0 : Nat), .int .u64 (lb ba 1 : Nat), .int .u64 (lb ba 2 : Nat), .int .u64 (lb ba 3 : Nat), .string rt, .string cd, .bool hs, .string co, .slice cp cn cc] 65)).heap.size := by simp
        clear hc_wa hf_wa hb_wa cF
        generalize wa.alloc (.cells #[.string ad, .bool true, .int .u64 no, .int .u64 (lb ba 0 : Nat), .int .u64 (lb ba 1 : Nat), .int .u64 (lb ba 2 : Nat), .int .u64 (lb ba 3 : Nat), .string rt, .string cd, .bool hs, .string co, .slice cp cn cc] 65) = w0 at *
        obtain ⟨x0, x1, x2, x3, x4, x5, x6, x7, x8, x9, x10, x11⟩ := cells12 kb
        clear x0 x2 x3 x4 x5 x6 x7 x11 kb
        refine wp_flow (fun k => ([1, 1, 1, 1, 1, 1, 1, 1, 1, 1, 1] : List Nat).getD k 1) (Below (w0.heap.size)) _ (Below.drew (Below.refl _ _)) (by kernel_rfl) (by kernel_rfl) ?_
        iterate 4 ((refine flow_quiet rfl rfl (fun K hK => ?_); apply Exists.intro; apply And.intro; (focus (intro w' hw'; have hc := (bcell hw').1; go_simp; (try go_bits); all_goals (first | exact rfl | exact ⟨rfl, hw'⟩))); go_simp; (try go_bits); refine hK _ ?_; clear hK K))
        iterate 3 (first | (refine flow_skip rfl (fun K hK => ?_); go_simp; (try go_bits); refine hK _ ?_; clear hK K) | (refine flow_quiet rfl rfl (fun K hK => ?_); apply Exists.intro; apply And.intro; (focus (intro w' hw'; have hc := (bcell hw').1; go_simp; (try go_bits); all_goals (first | exact rfl | exact ⟨rfl, hw'⟩))); go_simp; (try go_bits); refine hK _ ?_; clear hK K))
        first | (refine flow_skip rfl (fun K hK => ?_); go_simp; (try go_bits); refine hK _ ?_; clear hK K) | (refine flow_quiet rfl rfl (fun K hK => ?_); apply Exists.intro; apply And.intro; (focus (intro w' hw'; have hc := (bcell hw').1; go_simp; (try go_bits); all_goals (go_at_call 77; with_reducible refine (hE _).mono ?_; rintro e w2 ⟨rfl, hb⟩; exact ⟨rfl, hw'.trans (hb.mono (below_le hw' (by simp)))⟩))); go_simp; (try go_bits); refine hK _ ?_; clear hK K) | (refine flow_quiet rfl rfl (fun K hK => ?_); apply Exists.intro; apply And.intro; (focus (intro w' hw'; have hc := (bcell hw').1; go_simp; (try go_bits); all_goals (go_at_call 77; refine (hE _).mono ?_; rintro e w2 ⟨rfl, hb⟩; exact ⟨rfl, hw'.trans (hb.mono (below_le hw' (by simp)))⟩))); go_simp; (try go_bits); refine hK _ ?_; clear hK K)
        iterate 2 (first | (refine flow_skip rfl (fun K hK => ?_); go_simp; (try go_bits); refine hK _ ?_; clear hK K) | (refine flow_quiet rfl rfl (fun K hK => ?_); apply Exists.intro; apply And.intro; (focus (intro w' hw'; have hc := (bcell hw').1; go_simp; (try go_bits); all_goals (first | exact rfl | exact ⟨rfl, hw'⟩))); go_simp; (try go_bits); refine hK _ ?_; clear hK K))
        (refine flow_quiet rfl rfl (fun K hK => ?_); apply Exists.intro; apply And.intro; (focus (intro w' hw'; have hc := (bcell hw').1; go_simp; (try go_bits); all_goals (first | exact rfl | exact ⟨rfl, hw'⟩))); go_simp; (try go_bits); refine hK _ ?_; clear hK K)
        refine flow_nil ?_
        intro w' hw'
        have hbF := bF.trans (hw'.mono (by omega))
        have hc := (bcell hw').1
        clear hE bF
        go_wp2
        refine bodyPost_ret (by simp only [results, Tryd.results65]; go_simp; try rfl) rfl ⟨rfl, hbF⟩
      · have hq : (cd.toList == ec.toList) = false := by rw [beqS]; exact decide_eq_false h1
        simp only [if_neg h1]
        cases hs with
        | false =>
          simp only [if_true]
          have hs1 : W.heap.size < W.heap.size + 1 := by omega
          go_enter Tryd.func65, Tryd.ntmps65
          go_wp2_with (go_at_call 74; refine cF.mono ?_; rintro e wa ⟨rfl, hb_wa⟩; have hc_wa := (bcell hb_wa).1; have hf_wa := (bcell hb_wa).2; have hz_wa : _ ≤ wa.heap.size := hb_wa.size; (try simp only [World.size_alloc, World.heap_drewN, World.size_setCell, heap_drew] at hc_wa hf_wa hz_wa))
          have kb : (wa.alloc (.cells #[.string ad, .bool true, .int .u64 no, .int .u64 (lb ba 0 : Nat), .int .u64 (lb ba 1 : Nat), .int .u64 (lb ba 2 : Nat), .int .u64 (lb ba 3 : Nat), .string rt, .string cd, .bool false, .string co, .slice cp cn cc] 65)).heap[wa.heap.size]? = _ := heap_new rfl
          have bF : Below W.heap.size W (wa.alloc (.cells #[.string ad, .bool true, .int .u64 no, .int .u64 (lb ba 0 : Nat), .int .u64 (lb ba 1 : Nat), .int .u64 (lb ba 2 : Nat), .int .u64 (lb ba 3 : Nat), .string rt, .string cd, .bool false, .string co, .slice cp cn cc] 65)) := hb_wa.alloc hz_wa _
          have hk1 : wa.heap.size < (wa.alloc (.cells #[.string ad, .bool true, .int .u64 no, .int .u64 (lb ba 0 : Nat), .int .u64 (lb ba 1 : Nat), .int .u64 (lb ba 2 : Nat), .int .u64 (lb ba 3 : Nat), .string rt, .string cd, .bool false, .string co, .slice cp cn cc] 65)).heap.size := by simp
          clear hc_wa hf_wa hb_wa cF
          generalize wa.alloc (.cells #[.string ad, .bool true, .int .u64 no, .int .u64 (lb ba 0 : Nat), .int .u64 (lb ba 1 : Nat), .int .u64 (lb ba 2 : Nat), .int .u64 (lb ba 3 : Nat), .string rt, .string cd, .bool false, .string co, .slice cp cn cc] 65) = w0 at *
          obtain ⟨x0, x1, x2, x3, x4, x5, x6, x7, x8, x9, x10, x11⟩ := cells12 kb
          clear x0 x2 x3 x4 x5 x6 x7 x11 kb
          refine wp_flow (fun k => ([1, 1, 1, 1, 1, 1, 1, 1, 1, 1, 1] : List Nat).getD k 1) (Below (w0.heap.size)) _ (Below.drew (Below.refl _ _)) (by kernel_rfl) (by kernel_rfl) ?_
          iterate 4 ((refine flow_quiet rfl rfl (fun K hK => ?_); apply Exists.intro; apply And.intro; (focus (intro w' hw'; have hc := (bcell hw').1; go_simp; (try go_bits); all_goals (first | exact rfl | exact ⟨rfl, hw'⟩))); go_simp; (try go_bits); refine hK _ ?_; clear hK K))
          iterate 3 (first | (refine flow_skip rfl (fun K hK => ?_); go_simp; (try go_bits); refine hK _ ?_; clear hK K) | (refine flow_quiet rfl rfl (fun K hK => ?_); apply Exists.intro; apply And.intro; (focus (intro w' hw'; have hc := (bcell hw').1; go_simp; (try go_bits); all_goals (first | exact rfl | exact ⟨rfl, hw'⟩))); go_simp; (try go_bits); refine hK _ ?_; clear hK K))
          first | (refine flow_skip rfl (fun K hK => ?_); go_simp; (try go_bits); refine hK _ ?_; clear hK K) | (refine flow_quiet rfl rfl (fun K hK => ?_); apply Exists.intro; apply And.intro; (focus (intro w' hw'; have hc := (bcell hw').1; go_simp; (try go_bits); all_goals (go_at_call 77; with_reducible refine (hE _).mono ?_; rintro e w2 ⟨rfl, hb⟩; exact ⟨rfl, hw'.trans (hb.mono (below_le hw' (by simp)))⟩))); go_simp; (try go_bits); refine hK _ ?_; clear hK K) | (refine flow_quiet rfl rfl (fun K hK => ?_); apply Exists.intro; apply And.intro; (focus (intro w' hw'; have hc := (bcell hw').1; go_simp; (try go_bits); all_goals (go_at_call 77; refine (hE _).mono ?_; rintro e w2 ⟨rfl, hb⟩; exact ⟨rfl, hw'.trans (hb.mono (below_le hw' (by simp)))⟩))); go_simp; (try go_bits); refine hK _ ?_; clear hK K)
          iterate 2 (first | (refine flow_skip rfl (fun K hK => ?_); go_simp; (try go_bits); refine hK _ ?_; clear hK K) | (refine flow_quiet rfl rfl (fun K hK => ?_); apply Exists.intro; apply And.intro; (focus (intro w' hw'; have hc := (bcell hw').1; go_simp; (try go_bits); all_goals (first | exact rfl | exact ⟨rfl, hw'⟩))); go_simp; (try go_bits); refine hK _ ?_; clear hK K))
          (refine flow_quiet rfl rfl (fun K hK => ?_); apply Exists.intro; apply And.intro; (focus (intro w' hw'; have hc := (bcell hw').1; go_simp; (try go_bits); all_goals (first | exact rfl | exact ⟨rfl, hw'⟩))); go_simp; (try go_bits); refine hK _ ?_; clear hK K)
          refine flow_nil ?_
          intro w' hw'
          have hbF := bF.trans (hw'.mono (by omega))
          have hc := (bcell hw').1
          clear hE bF
          go_wp2
          refine bodyPost_ret (by simp only [results, Tryd.results65]; go_simp; try rfl) rfl ⟨rfl, hbF⟩
        | true =>
          simp only [Bool.true_eq_false, if_false]
          have hs1 : W.heap.size < W.heap.size + 1 := by omega
          go_enter Tryd.func65, Tryd.ntmps65
          go_wp2_with (go_at_call 74; refine cF.mono ?_; rintro e wa ⟨rfl, hb_wa⟩; have hc_wa := (bcell hb_wa).1; have hf_wa := (bcell hb_wa).2; have hz_wa : _ ≤ wa.heap.size := hb_wa.size; (try simp only [World.size_alloc, World.heap_drewN, World.size_setCell, heap_drew] at hc_wa hf_wa hz_wa))
          have kb : (wa.alloc (.cells #[.string ad, .bool true, .int .u64 no, .int .u64 (lb ba 0 : Nat), .int .u64 (lb ba 1 : Nat), .int .u64 (lb ba 2 : Nat), .int .u64 (lb ba 3 : Nat), .string rt, .string cd, .bool true, .string co, .slice cp cn cc] 65)).heap[wa.heap.size]? = _ := heap_new rfl
          have bF : Below W.heap.size W (wa.alloc (.cells #[.string ad, .bool true, .int .u64 no, .int .u64 (lb ba 0 : Nat), .int .u64 (lb ba 1 : Nat), .int .u64 (lb ba 2 : Nat), .int .u64 (lb ba 3 : Nat), .string rt, .string cd, .bool true, .string co, .slice cp cn cc] 65)) := hb_wa.alloc hz_wa _
          have hk1 : wa.heap.size < (wa.alloc (.cells #[.string ad, .bool true, .int .u64 no, .int .u64 (lb ba 0 : Nat), .int .u64 (lb ba 1 : Nat), .int .u64 (lb ba 2 : Nat), .int .u64 (lb ba 3 : Nat), .string rt, .string cd, .bool true, .string co, .slice cp cn cc] 65)).heap.size := by simp
          clear hc_wa hf_wa hb_wa cF
          generalize wa.alloc (.cells #[.string ad, .bool true, .int .u64 no, .int .u64 (lb ba 0 : Nat), .int .u64 (lb ba 1 : Nat), .int .u64 (lb ba 2 : Nat), .int .u64 (lb ba 3 : Nat), .string rt, .string cd, .bool true, .string co, .slice cp cn cc] 65) = w0 at *
          obtain ⟨x0, x1, x2, x3, x4, x5, x6, x7, x8, x9, x10, x11⟩ := cells12 kb
          clear x0 x2 x3 x4 x5 x6 x7 x11 kb
          refine wp_flow (fun k => ([1, 1, 1, 1, 1, 1, 1, 1, 1, 1, 1] : List Nat).getD k 1) (Below (w0.heap.size)) _ (Below.drew (Below.refl _ _)) (by kernel_rfl) (by kernel_rfl) ?_
          iterate 4 ((refine flow_quiet rfl rfl (fun K hK => ?_); apply Exists.intro; apply And.intro; (focus (intro w' hw'; have hc := (bcell hw').1; go_simp; (try go_bits); all_goals (first | exact rfl | exact ⟨rfl, hw'⟩))); go_simp; (try go_bits); refine hK _ ?_; clear hK K))
          iterate 3 (first | (refine flow_skip rfl (fun K hK => ?_); go_simp; (try go_bits); refine hK _ ?_; clear hK K) | (refine flow_quiet rfl rfl (fun K hK => ?_); apply Exists.intro; apply And.intro; (focus (intro w' hw'; have hc := (bcell hw').1; go_simp; (try go_bits); all_goals (first | exact rfl | exact ⟨rfl, hw'⟩))); go_simp; (try go_bits); refine hK _ ?_; clear hK K))
          first | (refine flow_skip rfl (fun K hK => ?_); go_simp; (try go_bits); refine hK _ ?_; clear hK K) | (refine flow_quiet rfl rfl (fun K hK => ?_); apply Exists.intro; apply And.intro; (focus (intro w' hw'; have hc := (bcell hw').1; go_simp; (try go_bits); all_goals (go_at_call 77; with_reducible refine (hE _).mono ?_; rintro e w2 ⟨rfl, hb⟩; exact ⟨rfl, hw'.trans (hb.mono (below_le hw' (by simp)))⟩))); go_simp; (try go_bits); refine hK _ ?_; clear hK K) | (refine flow_quiet rfl rfl (fun K hK => ?_); apply Exists.intro; apply And.intro; (focus (intro w' hw'; have hc := (bcell hw').1; go_simp; (try go_bits); all_goals (go_at_call 77; refine (hE _).mono ?_; rintro e w2 ⟨rfl, hb⟩; exact ⟨rfl, hw'.trans (hb.mono (below_le hw' (by simp)))⟩))); go_simp; (try go_bits); refine hK _ ?_; clear hK K)
          iterate 2 (first | (refine flow_skip rfl (fun K hK => ?_); go_simp; (try go_bits); refine hK _ ?_; clear hK K) | (refine flow_quiet rfl rfl (fun K hK => ?_); apply Exists.intro; apply And.intro; (focus (intro w' hw'; have hc := (bcell hw').1; go_simp; (try go_bits); all_goals (first | exact rfl | exact ⟨rfl, hw'⟩))); go_simp; (try go_bits); refine hK _ ?_; clear hK K))
          (refine flow_quiet rfl rfl (fun K hK => ?_); apply Exists.intro; apply And.intro; (focus (intro w' hw'; have hc := (bcell hw').1; go_simp; (try go_bits); all_goals (first | exact rfl | exact ⟨rfl, hw'⟩))); go_simp; (try go_bits); refine hK _ ?_; clear hK K)
          refine flow_nil ?_
          intro w' hw'
          have hbF := bF.trans (hw'.mono (by omega))
          have hc := (bcell hw').1
          clear hE bF
          go_wp2
          refine bodyPost_ret (by simp only [results, Tryd.results65]; go_simp; try rfl) rfl ⟨rfl, hbF⟩

set_option maxRecDepth 100000 in
set_option maxHeartbeats 4000000 in
theorem Digest_R (h : RRep W G q lv R) (hk : knL W lv L) (hL : ∀ K ∈ L, K.cd.size ≤ maxLen) (a : ByteArray) :
    Calls Tryd.prog 66 #[ptr q, .string a] W fun e w' => e = .returned (digV L a) ∧ Below W.heap.size W w' := by
  cases hK : kfind L a with
  | none =>
    rw [show digV L a = .tuple #[W4 0, .int .i64 190] by unfold digV; rw [hK]]
    have cF := fun o => find_Rn (h.below ((Below.refl _ W).alloc (Nat.le_refl _) o)) (hk.below ((Below.refl _ W).alloc (Nat.le_refl _) o)) hK
    rw [W4_zero]
    unfold Kn.v Kn.zero ptr at *
    dsimp only at cF
    go_enter Tryd.func66, Tryd.ntmps66
    go_wp2_with (go_at_call 74; refine (cF _).mono ?_; rintro e wa ⟨rfl, hb_wa⟩; have hc_wa := (bcell hb_wa).1; have hf_wa := (bcell hb_wa).2; have hz_wa : _ ≤ wa.heap.size := hb_wa.size; (try simp only [World.size_alloc, World.heap_drewN, World.size_setCell, heap_drew] at hc_wa hf_wa hz_wa); have hz_wa_W_0 : W.heap.size < wa.heap.size := (by omega))
    refine bodyPost_ret (by simp only [results, Tryd.results66]; go_simp; try rfl) rfl ⟨rfl, ?_⟩
    repeat (with_reducible first | exact Below.refl _ _ | assumption | refine below_drewN ?_ _ | refine Below.drew ?_ | refine Below.setCell ?_ (by first | omega | (simp; done) | (simp; omega)) _ | refine Below.alloc ?_ (by first | omega | (simp; done) | (simp; omega)) _ | refine Below.trans ?_ (Below.mono (by assumption) (by first | omega | (simp; done) | (simp; omega))))
  | some K =>
    rw [show digV L a = .tuple #[W4 (digN K), .int .i64 0] by unfold digV; rw [hK]]
    have cF := fun o => find_Rs (h.below ((Below.refl _ W).alloc (Nat.le_refl _) o)) (hk.below ((Below.refl _ W).alloc (Nat.le_refl _) o)) hK
    have hs := hL K (List.mem_of_find?_eq_some hK)
    have hFr : ∀ w, Calls Tryd.prog 78 #[.string K.cd] w fun e w' => e = .returned (W4 (frN K.cd)) ∧ Below w.heap.size w w' := ref_From K.cd hs
    unfold digN
    generalize frN K.cd = n at *
    clear hK h hL hs hk
    obtain ⟨ad, th, no, ba, rt, cd, hs, co, cp, cn, cc, cs⟩ := K
    unfold Kw.v Kw.kn Kn.v ptr at *
    dsimp only at *
    cases th with
    | false =>
      simp only [if_true, W4_zero]
      go_enter Tryd.func66, Tryd.ntmps66
      go_wp2_with (go_at_call 74; refine (cF _).mono ?_; rintro e wa ⟨rfl, hb_wa⟩; have hc_wa := (bcell hb_wa).1; have hf_wa := (bcell hb_wa).2; have hz_wa : _ ≤ wa.heap.size := hb_wa.size; (try simp only [World.size_alloc, World.heap_drewN, World.size_setCell, heap_drew] at hc_wa hf_wa hz_wa); have hz_wa_W_0 : W.heap.size < wa.heap.size := (by omega))
      refine bodyPost_ret (by simp only [results, Tryd.results66]; go_simp; try rfl) rfl ⟨rfl, ?_⟩
      repeat (with_reducible first | exact Below.refl _ _ | assumption | refine below_drewN ?_ _ | refine Below.drew ?_ | refine Below.setCell ?_ (by first | omega | (simp; done) | (simp; omega)) _ | refine Below.alloc ?_ (by first | omega | (simp; done) | (simp; omega)) _ | refine Below.trans ?_ (Below.mono (by assumption) (by first | omega | (simp; done) | (simp; omega))))
    | true =>
      simp only [Bool.true_eq_false, if_false]
      go_enter Tryd.func66, Tryd.ntmps66
      go_wp2_with (first | (go_at_call 74; refine (cF _).mono ?_; rintro e wa ⟨rfl, hb_wa⟩; have hc_wa := (bcell hb_wa).1; have hf_wa := (bcell hb_wa).2; have hz_wa : _ ≤ wa.heap.size := hb_wa.size; (try simp only [World.size_alloc, World.heap_drewN, World.size_setCell, heap_drew] at hc_wa hf_wa hz_wa); have hz_wa_W_0 : W.heap.size < wa.heap.size := (by omega); have hq : W.heap.size < wa.heap.size + 1 := (by omega)) | (go_at_call 78; refine (hFr _).mono ?_; rintro e wb ⟨rfl, hb_wb⟩; have hc_wb := (bcell hb_wb).1; have hf_wb := (bcell hb_wb).2; have hz_wb : _ ≤ wb.heap.size := hb_wb.size; (try simp only [World.size_alloc, World.heap_drewN, World.size_setCell, heap_drew] at hc_wb hf_wb hz_wb); have hz_wb_W_0 : W.heap.size < wb.heap.size := (by omega)))
      refine bodyPost_ret (by simp only [results, Tryd.results66]; go_simp; try rfl) rfl ⟨rfl, ?_⟩
      repeat (with_reducible first | exact Below.refl _ _ | assumption | refine below_drewN ?_ _ | refine Below.drew ?_ | refine Below.setCell ?_ (by first | omega | (simp; done) | (simp; omega)) _ | refine Below.alloc ?_ (by first | omega | (simp; done) | (simp; omega)) _ | refine Below.trans ?_ (Below.mono (by assumption) (by first | omega | (simp; done) | (simp; omega))))

set_option maxRecDepth 100000 in
set_option maxHeartbeats 4000000 in
theorem Brief_R (h : RRep W G q lv R) (hR : R.length ≤ 1000000) (hok : ∀ c ∈ R, c.ok) (a : ByteArray) (k : Nat) (hk : k < Q256) :
    Calls Tryd.prog 68 #[ptr q, .string a, W4 k] W fun e w' => e = .returned (W4 ((brF R (a, k)).getD 0)) ∧ Below W.heap.size W w' := by
  have bel : ∀ o1 o2, Below W.heap.size W ((W.alloc o1).alloc o2) := fun o1 o2 => ((Below.refl _ W).alloc (Nat.le_refl _) o1).alloc (by simp) o2
  have cL := fun o1 o2 => last_R (h.below (bel o1 o2)) hR hok 2 (by decide) a k hk
  simp only [laF_2] at cL
  generalize (brF R (a, k)).isSome = bs at *
  generalize (brF R (a, k)).getD 0 = v at *
  clear h bel
  unfold ptr at *
  go_enter Tryd.func68, Tryd.ntmps68
  go_wp2_with (go_at_call 64; refine (cL _ _).mono ?_; rintro e wa ⟨rfl, hb_wa⟩; have hc_wa := (bcell hb_wa).1; have hf_wa := (bcell hb_wa).2; have hz_wa : _ ≤ wa.heap.size := hb_wa.size; (try simp only [World.size_alloc, World.heap_drewN, World.size_setCell, heap_drew] at hc_wa hf_wa hz_wa); have hz_wa_W_0 : W.heap.size < wa.heap.size := (by omega); have hz_wa_W_1 : W.heap.size + 1 < wa.heap.size := (by omega))
  refine bodyPost_ret (by simp only [results, Tryd.results68]; go_simp; try rfl) rfl ⟨rfl, ?_⟩
  repeat (with_reducible first | exact Below.refl _ _ | assumption | refine below_drewN ?_ _ | refine Below.drew ?_ | refine Below.setCell ?_ (by first | omega | (simp; done) | (simp; omega)) _ | refine Below.alloc ?_ (by first | omega | (simp; done) | (simp; omega)) _ | refine Below.trans ?_ (Below.mono (by assumption) (by first | omega | (simp; done) | (simp; omega))))
end
end Go.Proofs.YtcdjdnbdblpofaaDoor

/- What the document's state answers: Origin, Load. Conditions: the blocks say what it is; what is known is right. -/
namespace Go.Proofs.YtcdjdnbdblpofaaDoor
open Go.RowKit Go.Maps
attribute [local go_sem] leftBy leaves eqW guardW
set_option linter.unusedSimpArgs false
set_option linter.unusedVariables false


section
variable {W : World} {G : Nat → Prop} {q : Nat} {lv : Value} {L : List Kw} {R : List Chg}

set_option maxRecDepth 100000 in
set_option maxHeartbeats 8000000 in
theorem Origin_R (h : RRep W G q lv R) (hk : knL W lv L) (hL : ∀ K ∈ L, Kok W K) (a : ByteArray) (k : Nat) (hkk : k < Q256) :
    Calls Tryd.prog 67 #[ptr q, .string a, W4 k] W fun e w' => e = .returned (.tuple #[W4 (oriN L a k).1, .int .i64 (oriN L a k).2]) ∧ Below W.heap.size W w' := by
  have bel : ∀ o1 o2, Below W.heap.size W ((W.alloc o1).alloc o2) := fun o1 o2 => ((Below.refl _ W).alloc (Nat.le_refl _) o1).alloc (by simp) o2
  cases hK : kfind L a with
  | none =>
    rw [show oriN L a k = (0, 190) by unfold oriN; rw [hK]]
    have cF := fun o1 o2 => find_Rn (h.below (bel o1 o2)) (hk.below (bel o1 o2)) hK
    dsimp only
    rw [W4_zero]
    unfold Kn.v Kn.zero ptr at *
    dsimp only at cF
    go_enter Tryd.func67, Tryd.ntmps67
    go_wp2_with (go_at_call 74; refine (cF _ _).mono ?_; rintro e wa ⟨rfl, hb_wa⟩; have hc_wa := (bcell hb_wa).1; have hf_wa := (bcell hb_wa).2; have hz_wa : _ ≤ wa.heap.size := hb_wa.size; (try simp only [World.size_alloc, World.heap_drewN, World.size_setCell, heap_drew] at hc_wa hf_wa hz_wa); have hz_wa_W_0 : W.heap.size < wa.heap.size := (by omega); have hz_wa_W_1 : W.heap.size + 1 < wa.heap.size := (by omega))
    refine bodyPost_ret (by simp only [results, Tryd.results67]; go_simp; try rfl) rfl ⟨rfl, ?_⟩
    repeat (with_reducible first | exact Below.refl _ _ | assumption | refine below_drewN ?_ _ | refine Below.drew ?_ | refine Below.setCell ?_ (by first | omega | (simp; done) | (simp; omega)) _ | refine Below.alloc ?_ (by first | omega | (simp; done) | (simp; omega)) _ | refine Below.trans ?_ (Below.mono (by assumption) (by first | omega | (simp; done) | (simp; omega))))
  | some K =>
    rw [show oriN L a k = oriK K k by unfold oriN; rw [hK]]
    have cF := fun o1 o2 => find_Rs (h.below (bel o1 o2)) (hk.below (bel o1 o2)) hK
    have hE : ∀ w, Calls Tryd.prog 77 #[] w fun e w' => e = .returned (.agg #[.int .u64 0, .int .u64 0, .int .u64 0, .int .u64 0, .int .u64 0, .string emR, .string emC]) ∧ Below w.heap.size w w' := ref_Empty
    have hKo := hL K (List.mem_of_find?_eq_some hK)
    unfold oriK
    generalize emR = er at *
    generalize emC = ec at *
    obtain ⟨kz1, kz2, kz3, kz4, kz5, kz6⟩ := hKo
    clear hK h hk hL kz1 kz2
    obtain ⟨ad, th, no, ba, rt, cd, hs, co, cp, cn, cc, cs⟩ := K
    unfold Kw.v Kw.kn Kn.v ptr at *
    dsimp only at *
    cases th with
    | false =>
      simp only [true_or, if_true, W4_zero]
      clear kz3 kz4 kz5 kz6
      go_enter Tryd.func67, Tryd.ntmps67
      go_wp2_with (go_at_call 74; refine (cF _ _).mono ?_; rintro e wa ⟨rfl, hb_wa⟩; have hc_wa := (bcell hb_wa).1; have hf_wa := (bcell hb_wa).2; have hz_wa : _ ≤ wa.heap.size := hb_wa.size; (try simp only [World.size_alloc, World.heap_drewN, World.size_setCell, heap_drew] at hc_wa hf_wa hz_wa); have hz_wa_W_0 : W.heap.size < wa.heap.size := (by omega); have hz_wa_W_1 : W.heap.size + 1 < wa.heap.size := (by omega))
      first | refine wp_flow (fun k => ([1, 1, 1, 1, 1, 1, 1, 1, 1, 1, 1] : List Nat).getD k 1) Dr _ (Dr.next _ _) (by kernel_rfl) (by kernel_rfl) ?_ | refine wp_flow (fun k => ([1, 1, 1, 1, 1, 1, 1, 1, 1, 1, 1] : List Nat).getD k 1) Dr _ (Dr.one _) (by kernel_rfl) (by kernel_rfl) ?_
      iterate 4 ((refine flow_quiet rfl rfl (fun K hK => ?_); apply Exists.intro; apply And.intro; (focus (rintro w' ⟨nn, rfl⟩; go_simp; (try go_bits); exact ⟨rfl, Dr.of _ _⟩)); go_simp; (try go_bits); refine hK _ ?_; clear hK K))
      iterate 6 (first | (refine flow_skip rfl (fun K hK => ?_); go_simp; (try go_bits); refine hK _ ?_; clear hK K) | (refine flow_quiet rfl rfl (fun K hK => ?_); apply Exists.intro; apply And.intro; (focus (rintro w' ⟨nn, rfl⟩; go_simp; (try go_bits); exact ⟨rfl, Dr.of _ _⟩)); go_simp; (try go_bits); refine hK _ ?_; clear hK K))
      (refine flow_quiet rfl rfl (fun K hK => ?_); apply Exists.intro; apply And.intro; (focus (rintro w' ⟨nn, rfl⟩; go_simp; (try go_bits); exact ⟨rfl, Dr.of _ _⟩)); go_simp; (try go_bits); refine hK _ ?_; clear hK K)
      refine flow_nil ?_
      rintro w' ⟨nq, rfl⟩
      go_wp2
      refine bodyPost_ret (by simp only [results, Tryd.results67]; go_simp; try rfl) rfl ⟨rfl, ?_⟩
      repeat (with_reducible first | exact Below.refl _ _ | assumption | refine below_drewN ?_ _ | refine Below.drew ?_ | refine Below.setCell ?_ (by first | omega | (simp; done) | (simp; omega)) _ | refine Below.alloc ?_ (by first | omega | (simp; done) | (simp; omega)) _ | refine Below.trans ?_ (Below.mono (by assumption) (by first | omega | (simp; done) | (simp; omega))))
    | true =>
      simp only [Bool.true_eq_false, false_or]
      have HM := Lib.hid kz6
      have HW := Lib.hid kz4
      have HL := Lib.hid kz3
      clear kz6 kz4 kz3
      have cn1 : cn ≤ 9223372036854775807 := by have := kz5.2; unfold maxLen at this; omega
      have cn2 : cn ≤ cc := kz5.1
      clear kz5
      by_cases h1 : rt = er
      · simp only [if_pos h1, W4_zero]
        subst h1
        go_enter Tryd.func67, Tryd.ntmps67
        go_wp2_with (go_at_call 74; refine (cF _ _).mono ?_; rintro e wa ⟨rfl, hb_wa⟩; have hc_wa := (bcell hb_wa).1; have hf_wa := (bcell hb_wa).2; have hz_wa : _ ≤ wa.heap.size := hb_wa.size; (try simp only [World.size_alloc, World.heap_drewN, World.size_setCell, heap_drew] at hc_wa hf_wa hz_wa); have hz_wa_W_0 : W.heap.size < wa.heap.size := (by omega); have hz_wa_W_1 : W.heap.size + 1 < wa.heap.size := (by omega))
        have kb : (wa.alloc (.cells #[.string ad, .bool true, .int .u64 no, .int .u64 (lb ba 0 : Nat), .int .u64 (lb ba 1 : Nat), .int .u64 (lb ba 2 : Nat), .int .u64 (lb ba 3 : Nat), .string rt, .string cd, .bool hs, .string co, .slice cp cn cc] 65)).heap[wa.heap.size]? = _ := heap_new rfl
        have bF : Below W.heap.size W (wa.alloc (.cells #[.string ad, .bool true, .int .u64 no, .int .u64 (lb ba 0 : Nat), .int .u64 (lb ba 1 : Nat), .int .u64 (lb ba 2 : Nat), .int .u64 (lb ba 3 : Nat), .string rt, .string cd, .bool hs, .string co, .slice cp cn cc] 65)) := ((bel _ _).trans (hb_wa.mono (bel _ _).size)).alloc (by omega) _
        have hk1 : wa.heap.size < (wa.alloc (.cells #[.string ad, .bool true, .int .u64 no, .int .u64 (lb ba 0 : Nat), .int .u64 (lb ba 1 : Nat), .int .u64 (lb ba 2 : Nat), .int .u64 (lb ba 3 : Nat), .string rt, .string cd, .bool hs, .string co, .slice cp cn cc] 65)).heap.size := by simp
        have kb1 : (wa.alloc (.cells #[.string ad, .bool true, .int .u64 no, .int .u64 (lb ba 0 : Nat), .int .u64 (lb ba 1 : Nat), .int .u64 (lb ba 2 : Nat), .int .u64 (lb ba 3 : Nat), .string rt, .string cd, .bool hs, .string co, .slice cp cn cc] 65)).heap[W.heap.size]? = some (.cells #[.int .u64 (lb k 0 : Nat), .int .u64 (lb k 1 : Nat), .int .u64 (lb k 2 : Nat), .int .u64 (lb k 3 : Nat)] 25 (0, 0)) := (Below.heap_alloc _ _ _ (by omega)).trans ((hb_wa.block _ (by simp only [World.size_alloc]; omega)).trans ((Below.heap_alloc _ _ _ (by simp)).trans (heap_new rfl)))
        have rb1 : (wa.alloc (.cells #[.string ad, .bool true, .int .u64 no, .int .u64 (lb ba 0 : Nat), .int .u64 (lb ba 1 : Nat), .int .u64 (lb ba 2 : Nat), .int .u64 (lb ba 3 : Nat), .string rt, .string cd, .bool hs, .string co, .slice cp cn cc] 65)).heap[W.heap.size + 1]? = some (.cells #[.int .u64 0, .int .u64 0, .int .u64 0, .int .u64 0] 25 (0, 0)) := (Below.heap_alloc _ _ _ (by omega)).trans ((hb_wa.block _ (by simp only [World.size_alloc]; omega)).trans (heap_new (by simp)))
        clear hc_wa hf_wa hb_wa cF
        generalize wa.alloc (.cells #[.string ad, .bool true, .int .u64 no, .int .u64 (lb ba 0 : Nat), .int .u64 (lb ba 1 : Nat), .int .u64 (lb ba 2 : Nat), .int .u64 (lb ba 3 : Nat), .string rt, .string cd, .bool hs, .string co, .slice cp cn cc] 65) = w0 at *
        obtain ⟨x0, x1, x2, x3, x4, x5, x6, x7, x8, x9, x10, x11⟩ := cells12 kb
        clear x0 x2 x3 x4 x5 x6 x8 x9 x10 x11
        refine wp_flow (fun k => ([1, 1, 1, 1, 1, 1, 1, 1, 1, 1, 1] : List Nat).getD k 1) (Below (w0.heap.size)) _ (Below.drew (Below.refl _ _)) (by kernel_rfl) (by kernel_rfl) ?_
        iterate 4 ((refine flow_quiet rfl rfl (fun K hK => ?_); apply Exists.intro; apply And.intro; (focus (intro w' hw'; have hc := (bcell hw').1; go_simp; (try go_bits); all_goals (first | exact rfl | exact ⟨rfl, hw'⟩))); go_simp; (try go_bits); refine hK _ ?_; clear hK K))
        iterate 3 (first | (refine flow_skip rfl (fun K hK => ?_); go_simp; (try go_bits); refine hK _ ?_; clear hK K) | (refine flow_quiet rfl rfl (fun K hK => ?_); apply Exists.intro; apply And.intro; (focus (intro w' hw'; have hc := (bcell hw').1; go_simp; (try go_bits); all_goals (first | exact rfl | exact ⟨rfl, hw'⟩))); go_simp; (try go_bits); refine hK _ ?_; clear hK K))
        first | (refine flow_skip rfl (fun K hK => ?_); go_simp; (try go_bits); refine hK _ ?_; clear hK K) | (refine flow_quiet rfl rfl (fun K hK => ?_); apply Exists.intro; apply And.intro; (focus (intro w' hw'; have hc := (bcell hw').1; go_simp; (try go_bits); all_goals (go_at_call 77; with_reducible refine (hE _).mono ?_; rintro e w2 ⟨rfl, hb⟩; exact ⟨rfl, hw'.trans (hb.mono (below_le hw' (by simp)))⟩))); go_simp; (try go_bits); refine hK _ ?_; clear hK K) | (refine flow_quiet rfl rfl (fun K hK => ?_); apply Exists.intro; apply And.intro; (focus (intro w' hw'; have hc := (bcell hw').1; go_simp; (try go_bits); all_goals (go_at_call 77; refine (hE _).mono ?_; rintro e w2 ⟨rfl, hb⟩; exact ⟨rfl, hw'.trans (hb.mono (below_le hw' (by simp)))⟩))); go_simp; (try go_bits); refine hK _ ?_; clear hK K)
        iterate 2 (first | (refine flow_skip rfl (fun K hK => ?_); go_simp; (try go_bits); refine hK _ ?_; clear hK K) | (refine flow_quiet rfl rfl (fun K hK => ?_); apply Exists.intro; apply And.intro; (focus (intro w' hw'; have hc := (bcell hw').1; go_simp; (try go_bits); all_goals (first | exact rfl | exact ⟨rfl, hw'⟩))); go_simp; (try go_bits); refine hK _ ?_; clear hK K))
        (refine flow_quiet rfl rfl (fun K hK => ?_); apply Exists.intro; apply And.intro; (focus (intro w' hw'; have hc := (bcell hw').1; go_simp; (try go_bits); all_goals (first | exact rfl | exact ⟨rfl, hw'⟩))); go_simp; (try go_bits); refine hK _ ?_; clear hK K)
        refine flow_nil ?_
        intro w' hw'
        have hbF := bF.trans (hw'.mono (by omega))
        have kb2 := (hw'.block _ (by omega)).trans kb1
        have rb2 := (hw'.block _ (by omega)).trans rb1
        have kb3 := (hw'.block _ (by omega)).trans kb
        obtain ⟨z0, z1, z2, z3, z4, z5, z6, z7, z8, z9, z10, z11⟩ := cells12 kb3
        obtain ⟨q0, q1, q2, q3⟩ := cells4w rb2
        have qf : ∀ j, w'.frozen? ⟨W.heap.size + 1, j, none⟩ = false := fun j => by simp [World.frozen?, rb2]
        clear hE bF x1 x7 z0 z2 z3 z4 z5 z6 z8 z9 z10 kb3
        go_wp2
        refine bodyPost_ret (by simp only [results, Tryd.results67]; go_simp; try rfl) rfl ⟨rfl, ?_⟩
        exact (((hbF.setCell (Nat.le_succ _) _).setCell (Nat.le_succ _) _).setCell (Nat.le_succ _) _).setCell (Nat.le_succ _) _
      · have hq : (rt.toList == er.toList) = false := by rw [beqS]; exact decide_eq_false h1
        simp only [if_neg h1]
        go_enter Tryd.func67, Tryd.ntmps67
        go_wp2_with (go_at_call 74; refine (cF _ _).mono ?_; rintro e wa ⟨rfl, hb_wa⟩; have hc_wa := (bcell hb_wa).1; have hf_wa := (bcell hb_wa).2; have hz_wa : _ ≤ wa.heap.size := hb_wa.size; (try simp only [World.size_alloc, World.heap_drewN, World.size_setCell, heap_drew] at hc_wa hf_wa hz_wa); have hz_wa_W_0 : W.heap.size < wa.heap.size := (by omega); have hz_wa_W_1 : W.heap.size + 1 < wa.heap.size := (by omega))
        have kb : (wa.alloc (.cells #[.string ad, .bool true, .int .u64 no, .int .u64 (lb ba 0 : Nat), .int .u64 (lb ba 1 : Nat), .int .u64 (lb ba 2 : Nat), .int .u64 (lb ba 3 : Nat), .string rt, .string cd, .bool hs, .string co, .slice cp cn cc] 65)).heap[wa.heap.size]? = _ := heap_new rfl
        have bF : Below W.heap.size W (wa.alloc (.cells #[.string ad, .bool true, .int .u64 no, .int .u64 (lb ba 0 : Nat), .int .u64 (lb ba 1 : Nat), .int .u64 (lb ba 2 : Nat), .int .u64 (lb ba 3 : Nat), .string rt, .string cd, .bool hs, .string co, .slice cp cn cc] 65)) := ((bel _ _).trans (hb_wa.mono (bel _ _).size)).alloc (by omega) _
        have hk1 : wa.heap.size < (wa.alloc (.cells #[.string ad, .bool true, .int .u64 no, .int .u64 (lb ba 0 : Nat), .int .u64 (lb ba 1 : Nat), .int .u64 (lb ba 2 : Nat), .int .u64 (lb ba 3 : Nat), .string rt, .string cd, .bool hs, .string co, .slice cp cn cc] 65)).heap.size := by simp
        have kb1 : (wa.alloc (.cells #[.string ad, .bool true, .int .u64 no, .int .u64 (lb ba 0 : Nat), .int .u64 (lb ba 1 : Nat), .int .u64 (lb ba 2 : Nat), .int .u64 (lb ba 3 : Nat), .string rt, .string cd, .bool hs, .string co, .slice cp cn cc] 65)).heap[W.heap.size]? = some (.cells #[.int .u64 (lb k 0 : Nat), .int .u64 (lb k 1 : Nat), .int .u64 (lb k 2 : Nat), .int .u64 (lb k 3 : Nat)] 25 (0, 0)) := (Below.heap_alloc _ _ _ (by omega)).trans ((hb_wa.block _ (by simp only [World.size_alloc]; omega)).trans ((Below.heap_alloc _ _ _ (by simp)).trans (heap_new rfl)))
        have rb1 : (wa.alloc (.cells #[.string ad, .bool true, .int .u64 no, .int .u64 (lb ba 0 : Nat), .int .u64 (lb ba 1 : Nat), .int .u64 (lb ba 2 : Nat), .int .u64 (lb ba 3 : Nat), .string rt, .string cd, .bool hs, .string co, .slice cp cn cc] 65)).heap[W.heap.size + 1]? = some (.cells #[.int .u64 0, .int .u64 0, .int .u64 0, .int .u64 0] 25 (0, 0)) := (Below.heap_alloc _ _ _ (by omega)).trans ((hb_wa.block _ (by simp only [World.size_alloc]; omega)).trans (heap_new (by simp)))
        clear hc_wa hf_wa hb_wa cF
        generalize wa.alloc (.cells #[.string ad, .bool true, .int .u64 no, .int .u64 (lb ba 0 : Nat), .int .u64 (lb ba 1 : Nat), .int .u64 (lb ba 2 : Nat), .int .u64 (lb ba 3 : Nat), .string rt, .string cd, .bool hs, .string co, .slice cp cn cc] 65) = w0 at *
        obtain ⟨x0, x1, x2, x3, x4, x5, x6, x7, x8, x9, x10, x11⟩ := cells12 kb
        clear x0 x2 x3 x4 x5 x6 x8 x9 x10 x11
        refine wp_flow (fun k => ([1, 1, 1, 1, 1, 1, 1, 1, 1, 1, 1] : List Nat).getD k 1) (Below (w0.heap.size)) _ (Below.drew (Below.refl _ _)) (by kernel_rfl) (by kernel_rfl) ?_
        iterate 4 ((refine flow_quiet rfl rfl (fun K hK => ?_); apply Exists.intro; apply And.intro; (focus (intro w' hw'; have hc := (bcell hw').1; go_simp; (try go_bits); all_goals (first | exact rfl | exact ⟨rfl, hw'⟩))); go_simp; (try go_bits); refine hK _ ?_; clear hK K))
        iterate 3 (first | (refine flow_skip rfl (fun K hK => ?_); go_simp; (try go_bits); refine hK _ ?_; clear hK K) | (refine flow_quiet rfl rfl (fun K hK => ?_); apply Exists.intro; apply And.intro; (focus (intro w' hw'; have hc := (bcell hw').1; go_simp; (try go_bits); all_goals (first | exact rfl | exact ⟨rfl, hw'⟩))); go_simp; (try go_bits); refine hK _ ?_; clear hK K))
        first | (refine flow_skip rfl (fun K hK => ?_); go_simp; (try go_bits); refine hK _ ?_; clear hK K) | (refine flow_quiet rfl rfl (fun K hK => ?_); apply Exists.intro; apply And.intro; (focus (intro w' hw'; have hc := (bcell hw').1; go_simp; (try go_bits); all_goals (go_at_call 77; with_reducible refine (hE _).mono ?_; rintro e w2 ⟨rfl, hb⟩; exact ⟨rfl, hw'.trans (hb.mono (below_le hw' (by simp)))⟩))); go_simp; (try go_bits); refine hK _ ?_; clear hK K) | (refine flow_quiet rfl rfl (fun K hK => ?_); apply Exists.intro; apply And.intro; (focus (intro w' hw'; have hc := (bcell hw').1; go_simp; (try go_bits); all_goals (go_at_call 77; refine (hE _).mono ?_; rintro e w2 ⟨rfl, hb⟩; exact ⟨rfl, hw'.trans (hb.mono (below_le hw' (by simp)))⟩))); go_simp; (try go_bits); refine hK _ ?_; clear hK K)
        iterate 2 (first | (refine flow_skip rfl (fun K hK => ?_); go_simp; (try go_bits); refine hK _ ?_; clear hK K) | (refine flow_quiet rfl rfl (fun K hK => ?_); apply Exists.intro; apply And.intro; (focus (intro w' hw'; have hc := (bcell hw').1; go_simp; (try go_bits); all_goals (first | exact rfl | exact ⟨rfl, hw'⟩))); go_simp; (try go_bits); refine hK _ ?_; clear hK K))
        (refine flow_quiet rfl rfl (fun K hK => ?_); apply Exists.intro; apply And.intro; (focus (intro w' hw'; have hc := (bcell hw').1; go_simp; (try go_bits); all_goals (first | exact rfl | exact ⟨rfl, hw'⟩))); go_simp; (try go_bits); refine hK _ ?_; clear hK K)
        refine flow_nil ?_
        intro w' hw'
        have hbF := bF.trans (hw'.mono (by omega))
        have kb2 := (hw'.block _ (by omega)).trans kb1
        have rb2 := (hw'.block _ (by omega)).trans rb1
        have kb3 := (hw'.block _ (by omega)).trans kb
        obtain ⟨z0, z1, z2, z3, z4, z5, z6, z7, z8, z9, z10, z11⟩ := cells12 kb3
        obtain ⟨q0, q1, q2, q3⟩ := cells4w rb2
        have qf : ∀ j, w'.frozen? ⟨W.heap.size + 1, j, none⟩ = false := fun j => by simp [World.frozen?, rb2]
        clear hE bF x1 x7 z0 z2 z3 z4 z5 z6 z8 z9 z10 kb3
        go_wp2
        have hz3 := hw'.size
        obtain ⟨wo, hwo⟩ : ∃ wo : World, wo = w' := ⟨_, rfl⟩
        go_loopw [10] (fun v wr => ∃ i : Nat, i ≤ cn ∧ v = .int .i64 (i : Nat) ∧ Fr (fun _ => False) w' wr ∧ ∀ c ∈ cs.take i, c.1 ≠ k) (fun v _ => cn - (intOf v).toNat)
        case atStart => exact ⟨0, Nat.zero_le _, rfl, Fr.refl _ _, fun c hc => by simp at hc⟩
        case round =>
          obtain ⟨i, hi, rfl, hF, hno⟩ := hrel
          have szr := hF.size
          have y11 := hF.cell (k := wa.heap.size) z11 id (by omega)
          have rb3 := (hF.block _ (by omega) id).trans rb2
          obtain ⟨q0, q1, q2, q3⟩ := cells4w rb3
          have qf : ∀ j, wr.frozen? ⟨W.heap.size + 1, j, none⟩ = false := fun j => by simp [World.frozen?, rb3]
          have hB : Below W.heap.size W wr := hbF.trans (hF.toBel.mono (by omega))
          by_cases hli : i < cn
          · obtain ⟨c, hc⟩ : ∃ c, cs[i]? = some c := ⟨_, List.getElem?_eq_getElem (by rw [HL.out]; exact hli)⟩
            obtain ⟨bl, o, rfl, hk1, hk2⟩ := HM.out i c hc
            have hbl : bl < W.heap.size := cell_lt (hk1 0 (by omega))
            have hc1 := (HW.out c (List.mem_of_getElem? hc)).1
            have G := fun (j : Nat) u (hu : W.cell? ⟨bl, o + i * 8 + j, none⟩ = some u) => (hB.cell (p := ⟨bl, o + i * 8 + j, none⟩) hbl).trans hu
            have g0 := G 0 _ (hk1 0 (by omega))
            have g1 := G 1 _ (hk1 1 (by omega))
            have g2 := G 2 _ (hk1 2 (by omega))
            have g3 := G 3 _ (hk1 3 (by omega))
            have g4 := G 4 _ (hk2 0 (by omega))
            have g5 := G 5 _ (hk2 1 (by omega))
            have g6 := G 6 _ (hk2 2 (by omega))
            have g7 := G 7 _ (hk2 3 (by omega))
            rw [Nat.add_zero] at g0
            obtain ⟨v0, v1, v2, v3⟩ := cells4w ((hF.block _ (by omega) id).trans kb2)
            have HF := Lib.hid hF
            have HN := Lib.hid hno
            have HB := Lib.hid hB
            have HC := Lib.hid hc
            clear G hk1 hk2 hF hno hB hc q0 q1 q2 q3 qf
            obtain ⟨ck, cv⟩ := c
            dsimp only at *
            by_cases he : ck = k
            · subst he
              go_wp2
              refine wp_flowU (fun k => ([1, 1, 1, 1, 1, 1, 1, 1] : List Nat).getD k 1) (fun (_ : Unit) w' => Fr (fun _ => False) wr w') (fun _ => True) (()) (Fr.drew (Fr.refl _ _)) trivial (by kernel_rfl) (by kernel_rfl) ?_
              iterate 8 ((refine flowU_readE rfl rfl (fun K hK => ?_); apply Exists.intro; apply And.intro; (focus (intro w' hR; have y1 := hR.cell y11 id (by omega); have z0 := hR.cell g0 id (by omega); have z1 := hR.cell g1 id (by omega); have z2 := hR.cell g2 id (by omega); have z3 := hR.cell g3 id (by omega); have t0 := hR.cell v0 id (by omega); have t1 := hR.cell v1 id (by omega); have t2 := hR.cell v2 id (by omega); have t3 := hR.cell v3 id (by omega); clear hR; go_simp; (try go_bits); exact rfl)); go_simp; (try go_bits); refine hK _ ?_; clear hK K))
              refine flowU_nil ?_
              intro w2 hR
              have y11 := hR.cell y11 id (by omega)
              have g4 := hR.cell g4 id (by omega)
              have g5 := hR.cell g5 id (by omega)
              have g6 := hR.cell g6 id (by omega)
              have g7 := hR.cell g7 id (by omega)
              have rb4 := (hR.block _ (by omega) id).trans rb3
              obtain ⟨q0, q1, q2, q3⟩ := cells4w rb4
              have qf : ∀ j, w2.frozen? ⟨W.heap.size + 1, j, none⟩ = false := fun j => by simp [World.frozen?, rb4]
              have hB2 : Below W.heap.size W w2 := HB.out.trans (hR.toBel.mono (by omega))
              clear hR
              go_wp2
              refine bodyPost_ret (by simp only [results, Tryd.results67]; go_simp; try rfl) rfl ⟨by rw [oriC_hit HN.out HC.out rfl], ?_⟩
              exact (((hB2.setCell (Nat.le_succ _) _).setCell (Nat.le_succ _) _).setCell (Nat.le_succ _) _).setCell (Nat.le_succ _) _
            · have hq3 := (eqN hc1 hkk).trans (decide_eq_false he)
              go_wp2
              refine wp_flowU (fun k => ([1, 1, 1, 1, 1, 1, 1, 1] : List Nat).getD k 1) (fun (_ : Unit) w' => Fr (fun _ => False) wr w') (fun _ => True) (()) (Fr.drew (Fr.refl _ _)) trivial (by kernel_rfl) (by kernel_rfl) ?_
              iterate 8 ((refine flowU_readE rfl rfl (fun K hK => ?_); apply Exists.intro; apply And.intro; (focus (intro w' hR; have y1 := hR.cell y11 id (by omega); have z0 := hR.cell g0 id (by omega); have z1 := hR.cell g1 id (by omega); have z2 := hR.cell g2 id (by omega); have z3 := hR.cell g3 id (by omega); have t0 := hR.cell v0 id (by omega); have t1 := hR.cell v1 id (by omega); have t2 := hR.cell v2 id (by omega); have t3 := hR.cell v3 id (by omega); clear hR; go_simp; (try go_bits); exact rfl)); go_simp; (try go_bits); refine hK _ ?_; clear hK K))
              refine flowU_nil ?_
              intro w2 hR
              have HF2 := Lib.hid (HF.out.trans ⟨hR.os, hR.tape, hR.output, hR.size, hR.block⟩)
              clear hR
              go_wp2
              go_roundw
              case rel => exact ⟨i + 1, by omega, by go_num, HF2.out, take_no HN.out HC.out he⟩
              case measure => simp [intOf]; omega
          · obtain rfl : i = cn := by omega
            have hnn := oriC_none (fun c hc => hno c (by rw [List.take_of_length_le (by rw [HL.out]; exact Nat.le_refl _)]; exact hc))
            clear hF hno
            go_wp2
            refine bodyPost_ret (by simp only [results, Tryd.results67]; go_simp; try rfl) rfl ⟨by rw [hnn, W4_zero], ?_⟩
            exact (((hB.setCell (Nat.le_succ _) _).setCell (Nat.le_succ _) _).setCell (Nat.le_succ _) _).setCell (Nat.le_succ _) _

set_option maxRecDepth 100000 in
set_option maxHeartbeats 4000000 in
theorem Load_R (h : RRep W G q lv R) (hk : knL W lv L) (hL : ∀ K ∈ L, Kok W K) (hR : R.length ≤ 1000000) (hok : ∀ c ∈ R, c.ok) (a : ByteArray) (k : Nat) (hkk : k < Q256) :
    Calls Tryd.prog 61 #[ptr q, .string a, W4 k] W fun e w' => e = .returned (.tuple #[W4 (loaN L R a k).1, .int .i64 (loaN L R a k).2]) ∧ Below W.heap.size W w' := by
  have bel : ∀ o1 o2, Below W.heap.size W ((W.alloc o1).alloc o2) := fun o1 o2 => ((Below.refl _ W).alloc (Nat.le_refl _) o1).alloc (by simp) o2
  have cL := fun o1 o2 => last_R (h.below (bel o1 o2)) hR hok 1 (by decide) a k hkk
  have cO : ∀ w, Below W.heap.size W w → Calls Tryd.prog 67 #[ptr q, .string a, W4 k] w fun e w' => e = .returned (.tuple #[W4 (oriN L a k).1, .int .i64 (oriN L a k).2]) ∧ Below w.heap.size w w' := fun w hb => Origin_R (h.below hb) (hk.below hb) (fun K hK => (hL K hK).below hb) a k hkk
  simp only [laF_1] at cL
  clear h hk hL
  unfold ptr at *
  cases hv : svF R (a, k) with
  | some v =>
    rw [show loaN L R a k = (v, 0) by unfold loaN; rw [hv]]
    rw [hv] at cL
    dsimp only [Option.getD_some, Option.isSome_some] at cL ⊢
    go_enter Tryd.func61, Tryd.ntmps61
    go_wp2_with (go_at_call 64; refine (cL _ _).mono ?_; rintro e wa ⟨rfl, hb_wa⟩; have hc_wa := (bcell hb_wa).1; have hf_wa := (bcell hb_wa).2; have hz_wa : _ ≤ wa.heap.size := hb_wa.size; (try simp only [World.size_alloc, World.heap_drewN, World.size_setCell, heap_drew] at hc_wa hf_wa hz_wa); have hz_wa_W_0 : W.heap.size < wa.heap.size := (by omega); have hz_wa_W_1 : W.heap.size + 1 < wa.heap.size := (by omega))
    refine bodyPost_ret (by simp only [results, Tryd.results61]; go_simp; try rfl) rfl ⟨rfl, ?_⟩
    repeat (with_reducible first | exact Below.refl _ _ | assumption | refine below_drewN ?_ _ | refine Below.drew ?_ | refine Below.setCell ?_ (by first | omega | (simp; done) | (simp; omega)) _ | refine Below.alloc ?_ (by first | omega | (simp; done) | (simp; omega)) _ | refine Below.trans ?_ (Below.mono (by assumption) (by first | omega | (simp; done) | (simp; omega))))
  | none =>
    rw [show loaN L R a k = oriN L a k by unfold loaN; rw [hv]]
    rw [hv] at cL
    dsimp only [Option.getD_none, Option.isSome_none] at cL
    generalize (oriN L a k).1 = o1 at *
    generalize (oriN L a k).2 = o2 at *
    go_enter Tryd.func61, Tryd.ntmps61
    go_wp2_with (first | (go_at_call 64; refine (cL _ _).mono ?_; rintro e wa ⟨rfl, hb_wa⟩; have hc_wa := (bcell hb_wa).1; have hf_wa := (bcell hb_wa).2; have hz_wa : _ ≤ wa.heap.size := hb_wa.size; (try simp only [World.size_alloc, World.heap_drewN, World.size_setCell, heap_drew] at hc_wa hf_wa hz_wa); have hz_wa_W_0 : W.heap.size < wa.heap.size := (by omega); have hz_wa_W_1 : W.heap.size + 1 < wa.heap.size := (by omega); have bo := fun o => ((bel _ _).trans (hb_wa.mono (bel _ _).size)).alloc (Nat.le_of_lt hz_wa_W_0) o) | (go_at_call 67; with_reducible refine (cO _ (bo _)).mono ?_; rintro e wb ⟨rfl, hb_wb⟩; have hc_wb := (bcell hb_wb).1; have hf_wb := (bcell hb_wb).2; have hz_wb : _ ≤ wb.heap.size := hb_wb.size; (try simp only [World.size_alloc, World.heap_drewN, World.size_setCell, heap_drew] at hc_wb hf_wb hz_wb); have hz_wb_W_0 : W.heap.size < wb.heap.size := (by omega); have hz_wb_W_1 : W.heap.size + 1 < wb.heap.size := (by omega)))
    refine bodyPost_ret (by simp only [results, Tryd.results61]; go_simp; try rfl) rfl ⟨rfl, ?_⟩
    repeat (with_reducible first | exact Below.refl _ _ | assumption | refine below_drewN ?_ _ | refine Below.drew ?_ | refine Below.setCell ?_ (by first | omega | (simp; done) | (simp; omega)) _ | refine Below.alloc ?_ (by first | omega | (simp; done) | (simp; omega)) _ | refine Below.trans ?_ (Below.mono (by assumption) (by first | omega | (simp; done) | (simp; omega))))
end
end Go.Proofs.YtcdjdnbdblpofaaDoor
