/-
  What a state is: what is known, and what was changed, the newest first; how its blocks say so. Conditions: none.
-/
import Derived.Test.YtcdjdnbdblpofaaDoorPL3
namespace Go.Proofs.YtcdjdnbdblpofaaDoor
open Go.RowKit Go.Maps
set_option linter.unusedSimpArgs false
set_option linter.unusedVariables false

/-- A known account; cs: its cells, key and value. -/
structure Kw where
  ad : ByteArray
  th : Bool
  no : Int
  ba : Nat
  rt : ByteArray
  cd : ByteArray
  hs : Bool
  co : ByteArray
  cp : Option Addr
  cn : Nat
  cc : Nat
  cs : List (Nat × Nat)
def Kw.kn (K : Kw) : Kn := ⟨K.ad, K.th, K.no, (lb K.ba 0 : Nat), (lb K.ba 1 : Nat), (lb K.ba 2 : Nat), (lb K.ba 3 : Nat), K.rt, K.cd, K.hs, K.co, K.cp, K.cn, K.cc⟩
def Kw.v (K : Kw) : Value := K.kn.v
/-- A log; tops: its topics. -/
structure Lg where
  ad : ByteArray
  tp : Option Addr
  tn : Nat
  tc : Nat
  dt : ByteArray
  tops : List ByteArray
def Lg.c (l : Lg) : List Value := [.string l.ad, .slice l.tp l.tn l.tc, .string l.dt]
def Lg.v (l : Lg) : Value := .agg #[.string l.ad, .slice l.tp l.tn l.tc, .string l.dt]
/-- A change. -/
inductive Chg where
  | save (p : ByteArray × Nat) (v : Nat)
  | brief (p : ByteArray × Nat) (v : Nat)
  | move (f t : ByteArray) (n : Nat)
  | warm (a : ByteArray)
  | cell (p : ByteArray × Nat)
  | note (l : Lg)
def Chg.ok : Chg → Prop
  | .save p v => okP p ∧ v < Q256
  | .brief p v => okP p ∧ v < Q256
  | .move f t n => okT f ∧ okT t ∧ n < Q256
  | .warm a => okT a
  | .cell p => okP p
  | .note _ => True
def addN (a b : Nat) : Nat := (a + b) % Q256
def subN (a b : Nat) : Nat := (a + Q256 - b) % Q256
theorem addN_lt (a b : Nat) : addN a b < Q256 := Nat.mod_lt _ Q256_pos
theorem subN_lt (a b : Nat) : subN a b < Q256 := Nat.mod_lt _ Q256_pos

/-- What is known of an address. -/
def kfind (L : List Kw) (a : ByteArray) : Option Kw := L.find? fun K => decide (K.ad = a)
def svF : List Chg → ByteArray × Nat → Option Nat
  | [], _ => none
  | .save p v :: R, q => if q = p then some v else svF R q
  | .brief _ _ :: R, q => svF R q
  | .move _ _ _ :: R, q => svF R q
  | .warm _ :: R, q => svF R q
  | .cell _ :: R, q => svF R q
  | .note _ :: R, q => svF R q
def brF : List Chg → ByteArray × Nat → Option Nat
  | [], _ => none
  | .brief p v :: R, q => if q = p then some v else brF R q
  | .save _ _ :: R, q => brF R q
  | .move _ _ _ :: R, q => brF R q
  | .warm _ :: R, q => brF R q
  | .cell _ :: R, q => brF R q
  | .note _ :: R, q => brF R q
def wmF : List Chg → ByteArray → Bool
  | [], _ => false
  | .warm a :: R, b => if b = a then true else wmF R b
  | .brief _ _ :: R, q => wmF R q
  | .save _ _ :: R, q => wmF R q
  | .move _ _ _ :: R, q => wmF R q
  | .cell _ :: R, q => wmF R q
  | .note _ :: R, q => wmF R q
def ceF : List Chg → ByteArray × Nat → Bool
  | [], _ => false
  | .cell p :: R, q => if q = p then true else ceF R q
  | .brief _ _ :: R, q => ceF R q
  | .save _ _ :: R, q => ceF R q
  | .move _ _ _ :: R, q => ceF R q
  | .warm _ :: R, q => ceF R q
  | .note _ :: R, q => ceF R q
def ba0 (L : List Kw) (a : ByteArray) : Nat := match kfind L a with | some K => if K.th then K.ba else 0 | none => 0
/-- A balance behind a move. -/
def mvF (f t : ByteArray) (n : Nat) (g : ByteArray → Nat) (a : ByteArray) : Nat :=
  let w := if a = f then subN (g a) n else g a
  if a = t then addN w n else w
def baF (L : List Kw) : List Chg → ByteArray → Nat
  | [], a => ba0 L a
  | .move f t n :: R, a => mvF f t n (baF L R) a
  | .brief _ _ :: R, q => baF L R q
  | .save _ _ :: R, q => baF L R q
  | .warm _ :: R, q => baF L R q
  | .cell _ :: R, q => baF L R q
  | .note _ :: R, q => baF L R q
def lgF : List Chg → List Lg
  | [] => []
  | .note l :: R => lgF R ++ [l]
  | .brief _ _ :: R => lgF R
  | .save _ _ :: R => lgF R
  | .move _ _ _ :: R => lgF R
  | .warm _ :: R => lgF R
  | .cell _ :: R => lgF R

theorem mvF_lt {f t : ByteArray} {n : Nat} {g : ByteArray → Nat} (h : ∀ a, g a < Q256) (a : ByteArray) : mvF f t n g a < Q256 := by
  unfold mvF
  dsimp only
  split
  · exact addN_lt _ _
  · split
    · exact subN_lt _ _
    · exact h a
theorem ba0_lt {L : List Kw} (h : ∀ K ∈ L, K.ba < Q256) (a : ByteArray) : ba0 L a < Q256 := by
  unfold ba0
  split
  · rename_i K hK
    have := h K (List.mem_of_find?_eq_some hK)
    split
    · exact this
    · exact Q256_pos
  · exact Q256_pos
theorem baF_lt {L : List Kw} (h : ∀ K ∈ L, K.ba < Q256) : ∀ (R : List Chg) (a : ByteArray), baF L R a < Q256
  | [], a => ba0_lt h a
  | .move f t n :: R, a => mvF_lt (baF_lt h R) a
  | .brief _ _ :: R, q => baF_lt h R q
  | .save _ _ :: R, q => baF_lt h R q
  | .warm _ :: R, q => baF_lt h R q
  | .cell _ :: R, q => baF_lt h R q
  | .note _ :: R, q => baF_lt h R q
theorem svF_lt : ∀ (R : List Chg), (∀ c ∈ R, c.ok) → ∀ q v, svF R q = some v → v < Q256
  | [], _, q, v, e => by cases e
  | c :: R, h, q, v, e => by
    have ih := svF_lt R (fun c hc => h c (List.mem_cons_of_mem _ hc)) q v
    have hc := h c (List.mem_cons_self ..)
    cases c <;> simp only [svF] at e <;> try exact ih e
    split at e
    · cases e
      exact hc.2
    · exact ih e
theorem brF_lt : ∀ (R : List Chg), (∀ c ∈ R, c.ok) → ∀ q v, brF R q = some v → v < Q256
  | [], _, q, v, e => by cases e
  | c :: R, h, q, v, e => by
    have ih := brF_lt R (fun c hc => h c (List.mem_cons_of_mem _ hc)) q v
    have hc := h c (List.mem_cons_self ..)
    cases c <;> simp only [brF] at e <;> try exact ih e
    split at e
    · cases e
      exact hc.2
    · exact ih e
theorem lgF_le : ∀ (R : List Chg), (lgF R).length ≤ R.length
  | [] => Nat.le_refl _
  | c :: R => by
    have := lgF_le R
    cases c <;> simp [lgF] <;> omega

/-- Where the log's cells are read. -/
def lgC (l : List Lg) : List Value := l.flatMap Lg.c
theorem lgC_length (l : List Lg) : (lgC l).length = l.length * 3 := by
  induction l with
  | nil => rfl
  | cons x r ih =>
    show (x.c ++ lgC r).length = _
    rw [List.length_append, ih, List.length_cons]
    show 3 + _ = _
    omega

def ptr (q : Nat) : Value := .pointer (some ⟨q, 0, none⟩)
/-- A variable of its own. -/
def boxAt (W : World) (F : Nat → Prop) (q : Nat) (cs : Array Value) (t : TypeId) : Prop := F q ∧ W.heap[q]? = some (.cells cs t (0, 0))
theorem boxAt.lt {W : World} {F : Nat → Prop} {q : Nat} {cs : Array Value} {t : TypeId} (h : boxAt W F q cs t) : q < W.heap.size := (Array.getElem?_eq_some_iff.1 h.2).1
theorem boxAt.mono {W W' : World} {F F' : Nat → Prop} {q : Nat} {cs : Array Value} {t : TypeId} (h : boxAt W F q cs t) (hF : ∀ k, F k → F' k) (e : W'.heap[q]? = W.heap[q]?) : boxAt W' F' q cs t := ⟨hF _ h.1, e.trans h.2⟩

/-- How a set is undone. -/
def setAt (W : World) (F : Nat → Prop) (mb : Nat) (p : ByteArray × Nat) (o : Option Nat) (v : Value) : Prop :=
  ∃ po pw pm ps, v = .func (.func 59) #[] #[ptr po, ptr pw, ptr pm, ptr ps] ∧ boxAt W F po #[.bool o.isSome] 4 ∧ boxAt W F pw (W4 (o.getD 0)).cells 25 ∧
    boxAt W F pm #[.map (some mb)] 68 ∧ boxAt W F ps (spW p).cells 83
/-- How a change c of what was R is undone. -/
def unAt (W : World) (F : Nat → Prop) (b : Nat) (R : List Chg) (c : Chg) (v : Value) : Prop :=
  match c with
  | .save p _ => setAt W F (b + 2) p (svF R p) v
  | .brief p _ => setAt W F (b + 3) p (brF R p) v
  | .move f t n => ∃ qs qt qn qf, v = .func (.func 55) #[] #[ptr qs, ptr qt, ptr qn, ptr qf] ∧ boxAt W F qs #[ptr (b + 6)] 27 ∧ boxAt W F qt #[.string t] 9 ∧ boxAt W F qn (W4 n).cells 25 ∧ boxAt W F qf #[.string f] 9
  | .warm a => ∃ qs qa, v = .func (.func 41) #[] #[ptr qs, ptr qa] ∧ boxAt W F qs #[ptr (b + 6)] 27 ∧ boxAt W F qa #[.string a] 9
  | .cell p => ∃ qs qp, v = .func (.func 42) #[] #[ptr qs, ptr qp] ∧ boxAt W F qs #[ptr (b + 6)] 27 ∧ boxAt W F qp (spW p).cells 83
  | .note _ => ∃ qs qn, v = .func (.func 39) #[] #[ptr qs, ptr qn] ∧ boxAt W F qs #[ptr (b + 6)] 27 ∧ boxAt W F qn #[.int .i64 (lgF R).length] 3
/-- The blocks of F that are variables of their own stay. -/
def boxTypes : List TypeId := [4, 25, 68, 83, 27, 9, 3]
def Boxes (F : Nat → Prop) (W W' : World) : Prop := ∀ q cs t, t ∈ boxTypes → F q → W.heap[q]? = some (.cells cs t (0, 0)) → W'.heap[q]? = some (.cells cs t (0, 0))
theorem boxAt.stays {W W' : World} {F F' : Nat → Prop} {q : Nat} {cs : Array Value} {t : TypeId} (h : boxAt W F q cs t) (hb : Boxes F W W') (hF : ∀ k, F k → F' k) (ht : t ∈ boxTypes) : boxAt W' F' q cs t := ⟨hF _ h.1, hb q cs t ht h.1 h.2⟩
theorem setAt.stays {W W' : World} {F F' : Nat → Prop} {mb : Nat} {p : ByteArray × Nat} {o : Option Nat} {v : Value} (h : setAt W F mb p o v) (hb : Boxes F W W') (hF : ∀ k, F k → F' k) : setAt W' F' mb p o v := by
  obtain ⟨po, pw, pm, ps, hv, h1, h2, h3, h4⟩ := h
  exact ⟨po, pw, pm, ps, hv, h1.stays hb hF (by decide), h2.stays hb hF (by decide), h3.stays hb hF (by decide), h4.stays hb hF (by decide)⟩
theorem unAt.stays {W W' : World} {F F' : Nat → Prop} {b : Nat} {R : List Chg} {c : Chg} {v : Value} (h : unAt W F b R c v) (hb : Boxes F W W') (hF : ∀ k, F k → F' k) : unAt W' F' b R c v := by
  cases c with
  | save p u => exact setAt.stays h hb hF
  | brief p u => exact setAt.stays h hb hF
  | move f t n =>
    obtain ⟨qs, qt, qn, qf, hv, h1, h2, h3, h4⟩ := h
    exact ⟨qs, qt, qn, qf, hv, h1.stays hb hF (by decide), h2.stays hb hF (by decide), h3.stays hb hF (by decide), h4.stays hb hF (by decide)⟩
  | warm a =>
    obtain ⟨qs, qa, hv, h1, h2⟩ := h
    exact ⟨qs, qa, hv, h1.stays hb hF (by decide), h2.stays hb hF (by decide)⟩
  | cell p =>
    obtain ⟨qs, qa, hv, h1, h2⟩ := h
    exact ⟨qs, qa, hv, h1.stays hb hF (by decide), h2.stays hb hF (by decide)⟩
  | note l =>
    obtain ⟨qs, qa, hv, h1, h2⟩ := h
    exact ⟨qs, qa, hv, h1.stays hb hF (by decide), h2.stays hb hF (by decide)⟩
/-- How all changes are undone; the newest stands last. -/
def unL (W : World) (F : Nat → Prop) (b : Nat) : List Chg → List Value → Prop
  | [], xs => xs = []
  | c :: R, xs => ∃ ys v, xs = ys ++ [v] ∧ unAt W F b R c v ∧ unL W F b R ys
theorem unL.stays {W W' : World} {F F' : Nat → Prop} {b : Nat} (hb : Boxes F W W') (hF : ∀ k, F k → F' k) : ∀ {R : List Chg} {xs : List Value}, unL W F b R xs → unL W' F' b R xs
  | [], _, h => h
  | c :: R, _, ⟨ys, v, hx, h1, h2⟩ => ⟨ys, v, hx, h1.stays hb hF, unL.stays hb hF h2⟩
theorem unL.length {W : World} {F : Nat → Prop} {b : Nat} : ∀ {R : List Chg} {xs : List Value}, unL W F b R xs → xs.length = R.length
  | [], _, h => by cases h; rfl
  | c :: R, _, ⟨ys, v, hx, h1, h2⟩ => by rw [hx, List.length_append, h2.length]; rfl

/-- The maps and the logs; un: what stands in the place of the list of undoings. -/
structure CRep (W : World) (F : Nat → Prop) (b N : Nat) (L : List Kw) (R : List Chg) (un : Value) : Prop where
  flt : ∀ k, F k → k < W.heap.size
  fb : ∀ j, j ≤ 6 → F (b + j)
  st : ∃ lg, stA W b lg un ∧ W.ownsRow 0 43 3 lg (lgF R).length (lgC (lgF R)) ∧ ∀ k, lg.ownBlock = some k → F k
  m0 : MV W 9 Value.string okT b N Kn.zero.v (fun a => (kfind L a).map Kw.v)
  m1 : MV W 9 Value.string okT (b + 1) N (W4 0) (fun a => (kfind L a).map fun _ => W4 (baF L R a))
  m2 : MV W 83 spW okP (b + 2) N (W4 0) (fun p => (svF R p).map W4)
  m3 : MV W 83 spW okP (b + 3) N (W4 0) (fun p => (brF R p).map W4)
  m4 : MV W 9 Value.string okT (b + 4) N (.bool false) (fun a => if wmF R a then some (.bool true) else none)
  m5 : MV W 83 spW okP (b + 5) N (.bool false) (fun p => if ceF R p then some (.bool true) else none)
/-- The list of undoings. -/
def uRow (W : World) (F : Nat → Prop) (b : Nat) (R : List Chg) (un : Value) : Prop :=
  ∃ xs, W.ownsRow 0 1 1 un R.length xs ∧ (∀ k, un.ownBlock = some k → F k) ∧ unL W F b R xs
/-- A state. -/
def SRep (W : World) (F : Nat → Prop) (b N : Nat) (L : List Kw) (R : List Chg) : Prop := ∃ un, CRep W F b N L R un ∧ uRow W F b R un

theorem ownsRow_same {W W' : World} {e : TypeId} {size n : Nat} {v : Value} {xs : List Value} (h : W.ownsRow 0 e size v n xs) (hb : ∀ k, v.ownBlock = some k → W'.heap[k]? = W.heap[k]?) : W'.ownsRow 0 e size v n xs := by
  obtain ⟨h1, h2 | ⟨g, cap, cur, hv, h2, h3, h4⟩⟩ := h
  · exact ⟨h1, .inl h2⟩
  · refine ⟨h1, .inr ⟨g, cap, cur, hv, h2, ?_, h4⟩⟩
    rw [hb g (by rw [hv]; rfl)]
    exact h3
theorem Boxes.of {F : Nat → Prop} {W W' : World} (h : ∀ k, F k → W'.heap[k]? = W.heap[k]?) : Boxes F W W' := fun q cs t _ hF hq => (h q hF).trans hq
theorem CRep.same {W W' : World} {F : Nat → Prop} {b N : Nat} {L : List Kw} {R : List Chg} {un : Value} (h : CRep W F b N L R un) (hs : W.heap.size ≤ W'.heap.size) (hb : ∀ k, F k → W'.heap[k]? = W.heap[k]?) : CRep W' F b N L R un := by
  have hj := fun j hj => hb (b + j) (h.fb j hj)
  obtain ⟨lg, s1, s2, s3⟩ := h.st
  exact ⟨fun k hk => Nat.lt_of_lt_of_le (h.flt k hk) hs, h.fb, ⟨lg, (hj 6 (by omega)).trans s1, ownsRow_same s2 fun k hk => hb k (s3 k hk), s3⟩, h.m0.at_block (hj 0 (by omega)), h.m1.at_block (hj 1 (by omega)), h.m2.at_block (hj 2 (by omega)),
    h.m3.at_block (hj 3 (by omega)), h.m4.at_block (hj 4 (by omega)), h.m5.at_block (hj 5 (by omega))⟩
theorem uRow.same {W W' : World} {F : Nat → Prop} {b : Nat} {R : List Chg} {un : Value} (h : uRow W F b R un) (hb : ∀ k, F k → W'.heap[k]? = W.heap[k]?) : uRow W' F b R un := by
  obtain ⟨xs, h1, h2, h3⟩ := h
  exact ⟨xs, ownsRow_same h1 fun k hk => hb k (h2 k hk), h2, h3.stays (.of hb) fun _ h => h⟩
theorem SRep.same {W W' : World} {F : Nat → Prop} {b N : Nat} {L : List Kw} {R : List Chg} (h : SRep W F b N L R) (hs : W.heap.size ≤ W'.heap.size) (hb : ∀ k, F k → W'.heap[k]? = W.heap[k]?) : SRep W' F b N L R := by
  obtain ⟨un, h1, h2⟩ := h
  exact ⟨un, h1.same hs hb, h2.same hb⟩
theorem SRep.flt {W : World} {F : Nat → Prop} {b N : Nat} {L : List Kw} {R : List Chg} (h : SRep W F b N L R) : ∀ k, F k → k < W.heap.size := let ⟨_, h, _⟩ := h; h.flt
theorem SRep.below {W W' : World} {F : Nat → Prop} {b N : Nat} {L : List Kw} {R : List Chg} (h : SRep W F b N L R) (hb : Below W.heap.size W W') : SRep W' F b N L R := h.same hb.size fun k hk => hb.block k (h.flt k hk)
theorem CRep.mono {W : World} {F F' : Nat → Prop} {b N N' : Nat} {L : List Kw} {R : List Chg} {un : Value} (h : CRep W F b N L R un) (hF : ∀ k, F k → F' k) (hF' : ∀ k, F' k → k < W.heap.size) (hN : N ≤ N') : CRep W F' b N' L R un := by
  obtain ⟨lg, s1, s2, s3⟩ := h.st
  exact ⟨hF', fun j hj => hF _ (h.fb j hj), ⟨lg, s1, s2, fun k hk => hF k (s3 k hk)⟩, h.m0.mono hN, h.m1.mono hN, h.m2.mono hN, h.m3.mono hN, h.m4.mono hN, h.m5.mono hN⟩
theorem uRow.mono {W : World} {F F' : Nat → Prop} {b : Nat} {R : List Chg} {un : Value} (h : uRow W F b R un) (hF : ∀ k, F k → F' k) : uRow W F' b R un := by
  obtain ⟨xs, h1, h2, h3⟩ := h
  exact ⟨xs, h1, fun k hk => hF k (h2 k hk), h3.stays (fun q cs t _ _ h => h) hF⟩
end Go.Proofs.YtcdjdnbdblpofaaDoor
