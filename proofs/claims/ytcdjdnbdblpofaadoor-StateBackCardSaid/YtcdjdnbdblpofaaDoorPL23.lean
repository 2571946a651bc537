/-
  Texts of one proof, one behind the other. Conditions: each text's own line says them.
-/
import Derived.Maps.AppendAt
import Derived.Test.YtcdjdnbdblpofaaDoorPL21
import Derived.Test.YtcdjdnbdblpofaaDoorPL16
import Derived.Test.YtcdjdnbdblpofaaDoorPL22

/- How an undoing is put behind the others: the region that does it, and what it leaves. Conditions: the state is one. -/
namespace Go.Proofs.YtcdjdnbdblpofaaDoor
open Go.RowKit Go.Maps
set_option linter.unusedSimpArgs false
set_option linter.unusedVariables false

/-- Where the region stands: stage, the list of one, the new list. -/
structure PuS where
  st : Nat
  g : Nat
  u : Value
def puPB (v : Value) (s : PuS) : Prop := ∃ g, v = .slice (some ⟨g, 0, none⟩) 1 1 ∧ s = ⟨1, g, undef⟩
def puPA (n g : Nat) (v : Value) (s : PuS) : Prop := ∃ q cap, v = .slice (some ⟨q, 0, none⟩) n cap ∧ s = ⟨2, g, .slice (some ⟨q, 0, none⟩) n cap⟩
def puPC (g : Nat) (u : Value) (v : Value) (s : PuS) : Prop := v = undef ∧ s = ⟨3, g, u⟩
/-- What is known there: un: the list, xs: its elements, v: the new one. -/
structure puR (W1 : World) (b : Nat) (lg un : Value) (xs : List Value) (v : Value) (s : PuS) (w' : World) : Prop where
  fr : Fr (fun k => un.ownBlock = some k ∨ k = b + 6) W1 w'
  st : stA w' b lg (if s.st ≤ 2 then un else s.u)
  row : s.st ≤ 1 → w'.ownsRow 0 1 1 un xs.length xs
  one : s.st = 1 → W1.heap.size ≤ s.g ∧ w'.heap[s.g]? = some (.cells #[v] 1 (0, 0))
  new : 2 ≤ s.st → w'.ownsRow 0 1 1 s.u (xs.length + 1) (xs ++ [v]) ∧ (s.u.ownBlock = un.ownBlock ∨ ∃ q, s.u.ownBlock = some q ∧ W1.heap.size ≤ q)

/-- Two blocks that hold variables of unlike types are two. -/
theorem block_ne {W : World} {i j : Nat} {c d : Array Value} {s t : TypeId} {f g : Nat × Nat} (hi : W.heap[i]? = some (.cells c s f)) (hj : W.heap[j]? = some (.cells d t g)) (h : s ≠ t) : i ≠ j := by
  rintro rfl
  rw [hi] at hj
  injection hj with hj
  injection hj with _ e
  exact h e
theorem map_ne {W : World} {i j : Nat} {c : Array Value} {s : TypeId} {f : Nat × Nat} {es : Array MapEntry} {k : Nat} (hi : W.heap[i]? = some (.cells c s f)) (hj : W.heap[j]? = some (.map es k)) : i ≠ j := by
  rintro rfl
  rw [hi] at hj
  cases hj
/-- Where a row lies. -/
theorem row_block {W : World} {e : TypeId} {size n : Nat} {v : Value} {xs : List Value} (h : W.ownsRow 0 e size v n xs) {k : Nat} (hk : v.ownBlock = some k) : ∃ cs, W.heap[k]? = some (.cells cs e (0, 0)) := by
  rcases h.2 with ⟨rfl, _⟩ | ⟨g, cap, cur, rfl, _, h3, _⟩
  · cases hk
  · obtain rfl : g = k := Option.some.inj hk
    exact ⟨cur, h3⟩

/-- The state behind it. -/
theorem push_done {w w2 : World} {F F' : Nat → Prop} {b N : Nat} {L : List Kw} {R : List Chg} {c : Chg} {un u2 lg v : Value} {xs : List Value} (hC : CRep w F b N L (c :: R) un) (hlg : stA w b lg un) (hrow : w.ownsRow 0 1 1 un xs.length xs) (hun : ∀ k, un.ownBlock = some k → F k)
    (hx : unL w F b R xs) (hv : unAt w F b R c v) (fr : Fr (fun k => un.ownBlock = some k ∨ k = b + 6) w w2) (hst : stA w2 b lg u2) (hnew : w2.ownsRow 0 1 1 u2 (xs.length + 1) (xs ++ [v])) (hat : u2.ownBlock = un.ownBlock ∨ ∃ q, u2.ownBlock = some q ∧ w.heap.size ≤ q)
    (hF : ∀ k, F k → F' k) (hF1 : ∀ k, w.heap.size ≤ k → k < w2.heap.size → F' k) (hF2 : ∀ k, F' k → k < w2.heap.size) : SRep w2 F' b N L (c :: R) := by
  have h6 : w.heap[b + 6]? = _ := hlg
  have same : ∀ k, k < w.heap.size → (∀ cs f, w.heap[k]? ≠ some (.cells cs 1 f)) → k ≠ b + 6 → w2.heap[k]? = w.heap[k]? := fun k hk h1 h2 => fr.block k hk fun hT => by
    rcases hT with hT | hT
    · obtain ⟨cs, h3⟩ := row_block hrow hT
      exact h1 _ _ h3
    · exact h2 hT
  have mv : ∀ {ι : Type} {kt : TypeId} {kv : ι → Value} {ok : ι → Prop} {mb : Nat} {z : Value} {f : ι → Option Value}, MV w kt kv ok mb N z f → MV w2 kt kv ok mb N z f := fun h => h.at_block (by
    obtain ⟨es, clock, hm⟩ := h.isMap
    exact same _ h.lt (fun cs f e => by rw [hm] at e; cases e) (fun e => by rw [e, h6] at hm; cases hm))
  have hb : Boxes F w w2 := fun q cs t ht hq he => (same q (hC.flt q hq) (fun cs' f e => by rw [he] at e; injection e with e; injection e with _ e; subst e; exact absurd ht (by decide)) (fun e => by rw [e, h6] at he; injection he with he; injection he with _ he; subst he; exact absurd ht (by decide))).trans he
  obtain ⟨lg2, s1, s2, s3⟩ := hC.st
  obtain rfl : lg2 = lg := by
    have e : some (Obj.cells _ _ _) = some _ := s1.symm.trans h6
    simpa using e
  refine ⟨u2, ⟨hF2, fun j hj => hF _ (hC.fb j hj), ⟨lg2, hst, ownsRow_same s2 fun k hk => ?_, fun k hk => hF k (s3 k hk)⟩, mv hC.m0, mv hC.m1, mv hC.m2, mv hC.m3, mv hC.m4, mv hC.m5⟩, xs ++ [v], ?_, fun k hk => ?_, xs, v, rfl, hv.stays hb hF, hx.stays hb hF⟩
  · obtain ⟨cs, h3⟩ := row_block s2 hk
    exact same k (hC.flt k (s3 k hk)) (fun cs' f e => by rw [h3] at e; injection e with e; injection e with _ e; exact absurd e (by decide)) (fun e => by rw [e, h6] at h3; injection h3 with h3; injection h3 with _ h3; exact absurd h3 (by decide))
  · rw [List.length_cons, ← hx.length]
    exact hnew
  · rcases hat with h | ⟨q, h, hq⟩
    · exact hF k (hun k (h ▸ hk))
    · obtain rfl : q = k := Option.some.inj (h.symm.trans hk)
      obtain ⟨cs, h3⟩ := row_block hnew hk
      exact hF1 q hq (Array.getElem?_eq_some_iff.1 h3).1

theorem SRep.mono {W : World} {F F' : Nat → Prop} {b N N' : Nat} {L : List Kw} {R : List Chg} (h : SRep W F b N L R) (hF : ∀ k, F k → F' k) (hN : N ≤ N') (hF' : ∀ k, F' k → k < W.heap.size) : SRep W F' b N' L R := by
  obtain ⟨un, h1, h2⟩ := h
  exact ⟨un, h1.mono hF hF' hN, h2.mono hF⟩
/-- What a call that may change the state leaves. -/
def muPost (W : World) (F : Nat → Prop) (b N : Nat) (L : List Kw) (R : List Chg) (v : Value) (e : Ending) (w' : World) : Prop :=
  e = .returned v ∧ ∃ F', SRep w' F' b N L R ∧ Fr F W w' ∧ (∀ k, F k → F' k) ∧ ∀ k, F' k → F k ∨ W.heap.size ≤ k
end Go.Proofs.YtcdjdnbdblpofaaDoor

/- Warm: its contract. Conditions: the state is one. -/
namespace Go.Proofs.YtcdjdnbdblpofaaDoor
open Go.RowKit Go.Maps
attribute [local go_sem] leftBy leaves
set_option linter.unusedSimpArgs false
set_option linter.unusedVariables false


section
variable {W : World} {F : Nat → Prop} {b N : Nat} {L : List Kw} {R : List Chg}

set_option maxRecDepth 100000 in
set_option maxHeartbeats 8000000 in
theorem Warm_old (h : SRep W F b N L R) {a : ByteArray} (ha : okT a) (hw : wmF R a = true) :
    Calls Tryd.prog 23 #[ptr (b + 6), .string a] W (muPost W F b (N + 1) L R (.bool true)) := by
  have hfl := h.flt
  have hS := fun (w' : World) (hs : W.heap.size ≤ w'.heap.size) (hb : ∀ k, F k → w'.heap[k]? = W.heap[k]?) => h.same hs hb
  obtain ⟨un, hC, hu⟩ := h
  obtain ⟨lg, s1, hrl, hlgF⟩ := hC.st
  have hlt := s1.lt
  have hl := hC.m4.look1 keyT Tryd.underlying69 zeroB a ha
  rw [hw] at hl
  clear hw
  have b1 : Below W.heap.size W ((W.alloc (.cells #[.pointer (some ⟨b + 6, 0, none⟩)] 27)).alloc (.cells #[.string a] 9)) := ((Below.refl _ W).alloc (Nat.le_refl _) _).alloc (by simp) _
  have k2 : ((W.alloc (.cells #[.pointer (some ⟨b + 6, 0, none⟩)] 27)).alloc (.cells #[.string a] 9)).heap[W.heap.size]? = _ := (Below.heap_alloc _ _ _ (by simp)).trans (heap_new rfl)
  have k3 : ((W.alloc (.cells #[.pointer (some ⟨b + 6, 0, none⟩)] 27)).alloc (.cells #[.string a] 9)).heap[W.heap.size + 1]? = _ := heap_new (by simp)
  have z1 : W.heap.size + 2 ≤ ((W.alloc (.cells #[.pointer (some ⟨b + 6, 0, none⟩)] 27)).alloc (.cells #[.string a] 9)).heap.size := by simp
  unfold ptr
  go_enter Tryd.func23, Tryd.ntmps23
  go_wp2
  generalize (W.alloc (.cells #[.pointer (some ⟨b + 6, 0, none⟩)] 27)).alloc (.cells #[.string a] 9) = W1 at *
  have s1' : stA W1 b lg un := (b1.block _ hlt).trans s1
  have hl1 := Lib.hid fun W' (e : W'.heap[b + 4]? = W1.heap[b + 4]?) => hl W' (e.trans (b1.block _ (by omega)))
  clear hl
  obtain ⟨_, _, _, _, d4, _⟩ := s1'.cells
  have x2 : W1.cell? ⟨W.heap.size, 0, none⟩ = some (.pointer (some ⟨b + 6, 0, none⟩)) := by simp [World.cell?, k2]
  have x3 : W1.cell? ⟨W.heap.size + 1, 0, none⟩ = some (.string a) := by simp [World.cell?, k3]
  refine wp_flowU (fun k => ([1, 1, 1, 1, 1, 1, 1, 1, 1, 1] : List Nat).getD k 1) (fun (_ : Unit) w' => Fr (fun _ => False) W1 w') (fun _ => True) (()) (Fr.drew (Fr.refl _ _)) trivial (by kernel_rfl) (by kernel_rfl) ?_
  iterate 3 ((refine flowU_readE rfl rfl (fun K hK => ?_); apply Exists.intro; apply And.intro; (focus (intro w' hR; have y2 := hR.cell x2 id (by omega); have y3 := hR.cell x3 id (by omega); have y4 := hR.cell d4 id (by omega); have hlw := hl1.out w' (hR.block _ (by omega) id); clear hR; go_simp; (try go_bits); exact rfl)); go_simp; (try go_bits); refine hK _ ?_; clear hK K))
  iterate 6 (first | (refine flowU_skip rfl (fun K hK => ?_); go_simp; (try go_bits); refine hK _ ?_; clear hK K) | (refine flowU_readE rfl rfl (fun K hK => ?_); apply Exists.intro; apply And.intro; (focus (intro w' hR; have y2 := hR.cell x2 id (by omega); have y3 := hR.cell x3 id (by omega); have y4 := hR.cell d4 id (by omega); have hlw := hl1.out w' (hR.block _ (by omega) id); clear hR; go_simp; (try go_bits); exact rfl)); go_simp; (try go_bits); refine hK _ ?_; clear hK K))
  (refine flowU_readE rfl rfl (fun K hK => ?_); apply Exists.intro; apply And.intro; (focus (intro w' hR; have y2 := hR.cell x2 id (by omega); have y3 := hR.cell x3 id (by omega); have y4 := hR.cell d4 id (by omega); have hlw := hl1.out w' (hR.block _ (by omega) id); clear hR; go_simp; (try go_bits); exact rfl)); go_simp; (try go_bits); refine hK _ ?_; clear hK K)
  refine flowU_nil ?_
  intro w' hR
  have y2 := hR.cell x2 id (by omega)
  go_wp2
  go_ret
  exact ⟨rfl, F, (hS w' (Nat.le_trans (by omega) hR.size) (fun k hk => (hR.block k (by have := hfl k hk; omega) id).trans (b1.block k (hfl k hk)))).mono (fun _ h => h) (by omega) (fun k hk => by have := hfl k hk; have := hR.size; omega), ((Fr.refl _ W).below b1).trans ⟨hR.os, hR.tape, hR.output, hR.size, fun k hk _ => hR.block k hk id⟩, fun _ h => h, fun _ h => .inl h⟩

set_option maxRecDepth 100000 in
set_option maxHeartbeats 16000000 in
theorem Warm_new (h : SRep W F b N L R) {a : ByteArray} (ha : okT a) (hw : wmF R a = false) (hRl : R.length ≤ 1000000) (hN : N ≤ 1000000) :
    Calls Tryd.prog 23 #[ptr (b + 6), .string a] W (muPost W F b (N + 1) L (.warm a :: R) (.bool false)) := by
  have hfl := h.flt
  obtain ⟨un, hC, xs, hrow, hunF, hxs⟩ := h
  obtain ⟨lg, s1, hrl, hlgF⟩ := hC.st
  obtain ⟨i0, hi, hz0, hz1, hz2⟩ := info_parts infoF
  have hxl := Lib.hid hxs.length
  have hxl2 : xs.length ≤ 1000000 := by rw [hxl.out]; exact hRl
  have hlt := s1.lt
  have hl := hC.m4.look1 keyT Tryd.underlying69 zeroB a ha
  rw [hw] at hl
  have b1 : Below W.heap.size W ((W.alloc (.cells #[.pointer (some ⟨b + 6, 0, none⟩)] 27)).alloc (.cells #[.string a] 9)) := ((Below.refl _ W).alloc (Nat.le_refl _) _).alloc (by simp) _
  have k2 : ((W.alloc (.cells #[.pointer (some ⟨b + 6, 0, none⟩)] 27)).alloc (.cells #[.string a] 9)).heap[W.heap.size]? = _ := (Below.heap_alloc _ _ _ (by simp)).trans (heap_new rfl)
  have k3 : ((W.alloc (.cells #[.pointer (some ⟨b + 6, 0, none⟩)] 27)).alloc (.cells #[.string a] 9)).heap[W.heap.size + 1]? = _ := heap_new (by simp)
  have z1 : W.heap.size + 2 ≤ ((W.alloc (.cells #[.pointer (some ⟨b + 6, 0, none⟩)] 27)).alloc (.cells #[.string a] 9)).heap.size := by simp
  unfold ptr
  go_enter Tryd.func23, Tryd.ntmps23
  go_wp2
  generalize (W.alloc (.cells #[.pointer (some ⟨b + 6, 0, none⟩)] 27)).alloc (.cells #[.string a] 9) = W1 at *
  have s1' : stA W1 b lg un := (b1.block _ hlt).trans s1
  have hl1 := Lib.hid fun W' (e : W'.heap[b + 4]? = W1.heap[b + 4]?) => hl W' (e.trans (b1.block _ (by omega)))
  clear hl
  obtain ⟨_, _, _, _, d4, _, _, d7, _⟩ := s1'.cells
  have x2 : W1.cell? ⟨W.heap.size, 0, none⟩ = some (.pointer (some ⟨b + 6, 0, none⟩)) := by simp [World.cell?, k2]
  have x3 : W1.cell? ⟨W.heap.size + 1, 0, none⟩ = some (.string a) := by simp [World.cell?, k3]
  refine wp_flowU (fun k => ([1, 1, 1, 1, 1, 1, 1, 1, 1, 1] : List Nat).getD k 1) (fun (_ : Unit) w' => Fr (fun _ => False) W1 w') (fun _ => True) (()) (Fr.drew (Fr.refl _ _)) trivial (by kernel_rfl) (by kernel_rfl) ?_
  iterate 3 ((refine flowU_readE rfl rfl (fun K hK => ?_); apply Exists.intro; apply And.intro; (focus (intro w' hR; have y2 := hR.cell x2 id (by omega); have y3 := hR.cell x3 id (by omega); have y4 := hR.cell d4 id (by omega); have hlw := hl1.out w' (hR.block _ (by omega) id); clear hR; go_simp; (try go_bits); exact rfl)); go_simp; (try go_bits); refine hK _ ?_; clear hK K))
  iterate 6 (first | (refine flowU_skip rfl (fun K hK => ?_); go_simp; (try go_bits); refine hK _ ?_; clear hK K) | (refine flowU_readE rfl rfl (fun K hK => ?_); apply Exists.intro; apply And.intro; (focus (intro w' hR; have y2 := hR.cell x2 id (by omega); have y3 := hR.cell x3 id (by omega); have y4 := hR.cell d4 id (by omega); have hlw := hl1.out w' (hR.block _ (by omega) id); clear hR; go_simp; (try go_bits); exact rfl)); go_simp; (try go_bits); refine hK _ ?_; clear hK K))
  (refine flowU_readE rfl rfl (fun K hK => ?_); apply Exists.intro; apply And.intro; (focus (intro w' hR; have y2 := hR.cell x2 id (by omega); have y3 := hR.cell x3 id (by omega); have y4 := hR.cell d4 id (by omega); have hlw := hl1.out w' (hR.block _ (by omega) id); clear hR; go_simp; (try go_bits); exact rfl)); go_simp; (try go_bits); refine hK _ ?_; clear hK K)
  refine flowU_nil ?_
  intro W2 hR2
  have sz2 := hR2.size
  have b2 : ∀ k, k < W.heap.size → W2.heap[k]? = W.heap[k]? := fun k hk => (hR2.block k (by omega) id).trans (b1.block k hk)
  replace k2 := (hR2.block _ (by omega) id).trans k2
  replace k3 := (hR2.block _ (by omega) id).trans k3
  replace x2 := hR2.cell x2 id (by omega)
  replace x3 := hR2.cell x3 id (by omega)
  replace d4 := hR2.cell d4 id (by omega)
  have f2 : Fr F W W2 := ((Fr.refl _ W).below b1).trans ⟨hR2.os, hR2.tape, hR2.output, hR2.size, fun k hk _ => hR2.block k hk id⟩
  have m4 := hC.m4.at_block (b2 _ (by omega))
  clear hl1 s1' b1 hR2
  go_wp2
  refine wp_flowU (fun k => ([1, 1, 1, 1, 1, 2] : List Nat).getD k 1) (mpV W2 9 Value.string okT (b + 4) N (.bool false) (fun a => if wmF R a then some (.bool true) else none) (fun c => if c = a then some (.bool true) else if wmF R c then some (.bool true) else none)) (fun _ => True) (false) (⟨Fr.drew (Fr.refl _ _), m4⟩) trivial (by kernel_rfl) (by kernel_rfl) ?_
  iterate 5 ((refine flowU_readE rfl rfl (fun K hK => ?_); apply Exists.intro; apply And.intro; (focus (intro w' hR; have y2 := hR.fr.cell x2 (by omega) (by omega); have y3 := hR.fr.cell x3 (by omega) (by omega); have y4 := hR.fr.cell d4 (by omega) (by omega); clear hR; go_simp; (try go_bits); exact rfl)); go_simp; (try go_bits); refine hK _ ?_; clear hK K))
  refine flowU_step (fun v s => v = undef ∧ s = true) (by decide) rfl ⟨undef, true, rfl, rfl⟩ (fun w' hR => ?_) (fun _ _ _ _ _ => trivial) (fun K hK v s2 hs2 => ?_)
  focus
    have hm := hR.now
    rw [if_neg (by simp)] at hm
    obtain ⟨w2, hrun, hm2, hgr⟩ := hm.put keyT Tryd.underlying69 (by unfold maxLen; omega) a ha (.bool true)
    have hfr := hR.fr
    clear hR hm
    go_simp
    exact ⟨hfr.trans ⟨hgr.os, hgr.tape, hgr.output, hgr.size, fun j hj hT => hgr.block j hj (by simpa using hT)⟩, by rw [if_pos rfl]; exact hm2⟩
  obtain ⟨rfl, rfl⟩ := hs2
  (go_simp; refine hK _ _ ?_; clear hK K)
  refine flowU_nil ?_
  intro W3 hR3
  have n4 := hR3.now
  rw [if_pos rfl] at n4
  have fr3 := hR3.fr
  clear hR3
  have sz3 := fr3.size
  have b3 : ∀ k, k < W.heap.size → k ≠ b + 4 → W3.heap[k]? = W.heap[k]? := fun k hk hn => (fr3.block k (by omega) hn).trans (b2 k hk)
  replace k2 := (fr3.block _ (by omega) (by omega)).trans k2
  replace k3 := (fr3.block _ (by omega) (by omega)).trans k3
  replace x2 := fr3.cell x2 (by omega) (by omega)
  replace x3 := fr3.cell x3 (by omega) (by omega)
  have f3 : Fr F W W3 := f2.trans ⟨fr3.os, fr3.tape, fr3.output, fr3.size, fun k hk hT => fr3.block k hk (fun e => hT (by rw [e]; exact hC.fb 4 (by omega)))⟩
  have s3 : stA W3 b lg un := (b3 _ hlt (by omega)).trans s1
  obtain ⟨es4, cl4, hm4⟩ := hC.m4.isMap
  have hrow3 : W3.ownsRow 0 1 1 un xs.length xs := by
    rw [hxl.out]
    refine ownsRow_same hrow fun k hk => b3 k (hfl k (hunF k hk)) ?_
    obtain ⟨cs, h3⟩ := row_block hrow hk
    exact map_ne h3 hm4
  have hC3 : CRep W3 (fun k => F k ∨ (W.heap.size ≤ k ∧ k < W3.heap.size)) b (N + 1) L (.warm a :: R) un := by
    have hj := fun j (h1 : j ≤ 6) (h2 : j ≠ 4) => b3 (b + j) (by omega) (by omega)
    refine ⟨fun k hk => ?_, fun j hj => .inl (hC.fb j hj), ⟨lg, s3, ownsRow_same hrl fun k hk => ?_, fun k hk => .inl (hlgF k hk)⟩, (hC.m0.at_block (hj 0 (by omega) (by omega))).mono (by omega), (hC.m1.at_block (hj 1 (by omega) (by omega))).mono (by omega), (hC.m2.at_block (hj 2 (by omega) (by omega))).mono (by omega), (hC.m3.at_block (hj 3 (by omega) (by omega))).mono (by omega), ?_, (hC.m5.at_block (hj 5 (by omega) (by omega))).mono (by omega)⟩
    · rcases hk with hk | hk
      · have := hfl k hk
        omega
      · exact hk.2
    · obtain ⟨cs, h3⟩ := row_block hrl hk
      exact b3 k (hfl k (hlgF k hk)) (map_ne h3 hm4)
    · refine n4.ext fun c _ => ?_
      show _ = if wmF (.warm a :: R) c then some (Value.bool true) else none
      by_cases e : c = a
      · simp [wmF, e]
      · simp [wmF, e]
  have hx3 : unL W3 (fun k => F k ∨ (W.heap.size ≤ k ∧ k < W3.heap.size)) b R xs := hxs.stays (fun q cs t ht hq he => (b3 q (hfl q hq) (map_ne he hm4)).trans he) fun k hk => .inl hk
  have hv3 : unAt W3 (fun k => F k ∨ (W.heap.size ≤ k ∧ k < W3.heap.size)) b R (.warm a) (.func (.func 41) #[] #[.pointer (some ⟨W.heap.size, 0, none⟩), .pointer (some ⟨W.heap.size + 1, 0, none⟩)]) :=
    ⟨W.heap.size, W.heap.size + 1, rfl, ⟨.inr ⟨by omega, by omega⟩, k2⟩, ⟨.inr ⟨by omega, by omega⟩, k3⟩⟩
  have hT2 : ¬ (un.ownBlock = some W.heap.size ∨ W.heap.size = b + 6) := fun h => by
    rcases h with h | h
    · have := hfl _ (hunF _ h)
      omega
    · omega
  have hT3 : ¬ (un.ownBlock = some (W.heap.size + 1) ∨ W.heap.size + 1 = b + 6) := fun h => by
    rcases h with h | h
    · have := hfl _ (hunF _ h)
      omega
    · omega
  have hCb := hC.fb 6 (by omega)
  clear m4 n4 d4 d7 hC hxs hrow b2 f2 hrl hw
  go_wp2
  refine wp_flowU (fun k => ([0, 0, 0, 0, 0, 1, 2, 2, 1, 1, 4] : List Nat).getD k 1) (puR W3 b lg un xs (.func (.func 41) #[] #[.pointer (some ⟨W.heap.size, 0, none⟩), .pointer (some ⟨W.heap.size + 1, 0, none⟩)])) (fun s => s.st ≤ 2) (⟨0, 0, undef⟩) (⟨Fr.drew (Fr.refl _ _), s3, fun _ => hrow3, fun h => (by cases h), fun h => (by simp at h)⟩) (by decide) (by kernel_rfl) (by kernel_rfl) ?_
  iterate 5 ((refine flowU_lateE rfl rfl (fun K hK => ?_); apply Exists.intro; apply And.intro; (focus (intro s0 w' hC hR; have hq := hR.st; rw [if_pos (by first | exact hC | simp)] at hq; obtain ⟨_, _, _, _, _, _, _, e7, _⟩ := hq.cells; have y2 := hR.fr.cell x2 hT2 (by omega); have y3 := hR.fr.cell x3 hT3 (by omega); clear hq hR; go_simp; (try go_bits); exact rfl)); go_simp; (try go_bits); refine hK _ ?_; clear hK K))
  (refine flowU_readE rfl rfl (fun K hK => ?_); apply Exists.intro; apply And.intro; (focus (intro w' hR; have hq := hR.st; rw [if_pos (by first | exact hC | simp)] at hq; obtain ⟨_, _, _, _, _, _, _, e7, _⟩ := hq.cells; have y2 := hR.fr.cell x2 hT2 (by omega); have y3 := hR.fr.cell x3 hT3 (by omega); clear hq hR; go_simp; (try go_bits); exact rfl)); go_simp; (try go_bits); refine hK _ ?_; clear hK K)
  refine flowU_step puPB (by decide) rfl ⟨.slice (some ⟨0, 0, none⟩) 1 1, _, 0, rfl, rfl⟩ (fun w' hR => ?_) (fun _ _ v s2 h => (by obtain ⟨g, _, rfl⟩ := h; exact (by decide : (1 : Nat) ≤ 2))) (fun K hK v s2 hs2 => ?_)
  focus
    have hst' := hR.st
    have hlt' := (Array.getElem?_eq_some_iff.1 (show w'.heap[b + 6]? = _ from hst')).1
    have hfr := hR.fr
    have hro := hR.row (Nat.zero_le _)
    clear hR
    go_simp
    exact ⟨⟨1, w'.heap.size, undef⟩, ⟨_, rfl, rfl⟩, hfr.alloc _, (Below.heap_alloc _ _ _ hlt').trans hst', fun _ => hro.alloc _, fun _ => ⟨hfr.size, heap_new rfl⟩, fun h => (by simp at h)⟩
  obtain ⟨g, rfl, rfl⟩ := hs2
  (go_simp; refine hK _ _ ?_; clear hK K)
  refine flowU_step (puPA (xs.length + 1) g) (by decide) rfl ⟨_, _, 0, 0, rfl, rfl⟩ (fun w' hR => ?_) (fun _ _ v s2 h => (by obtain ⟨_, _, _, rfl⟩ := h; exact (by decide : (2 : Nat) ≤ 2))) (fun K hK v s2 hs2 => ?_)
  focus
    have hst' := hR.st
    have hlt' := (Array.getElem?_eq_some_iff.1 (show w'.heap[b + 6]? = _ from hst')).1
    obtain ⟨hg1, hg2⟩ := hR.one rfl
    have hro := hR.row (Nat.le_refl _)
    have hfr := hR.fr
    clear hR
    have hgc : w'.cell? ⟨g, 0, none⟩ = some (.func (.func 41) #[] #[.pointer (some ⟨W.heap.size, 0, none⟩), .pointer (some ⟨W.heap.size + 1, 0, none⟩)]) := by
      have hg3 : w'.heap[g]? = _ := hg2
      simp [World.cell?, hg3]
    obtain ⟨v', w2, hr, hown', hgrow, _, hloc⟩ := run_append_own_at (P := Tryd.prog) w' 0 71 71 1 i0 .nilFunc 1 8 Tryd.underlying71 hi hz0 hz1 hz2 rfl (by decide) un xs.length xs hro ⟨g, 0, none⟩ 1 1 [.func (.func 41) #[] #[.pointer (some ⟨W.heap.size, 0, none⟩), .pointer (some ⟨W.heap.size + 1, 0, none⟩)]] rfl
      (fun j u hj => by
        cases j with
        | zero => simp at hj; subst hj; simpa [Addr.add] using hgc
        | succ j => simp at hj) (by simp [Value.oneCell']) (by unfold maxLen; omega) (by omega) (Nat.zero_le _)
    rw [append_exec (P := Tryd.prog) rfl rfl rfl hr]
    have hne : un.ownBlock ≠ some (b + 6) := fun e => by
      obtain ⟨cs, h3⟩ := row_block hro e
      have h6 : w'.heap[b + 6]? = _ := hst'
      rw [h3] at h6
      injection h6 with h6
      injection h6 with _ h6
      exact absurd h6 (by decide)
    obtain ⟨q, cap, rfl⟩ : ∃ q cap, v' = .slice (some ⟨q, 0, none⟩) (xs.length + 1) cap := by
      rcases hown'.2 with ⟨_, h0⟩ | ⟨q, cap, cur, h0, _⟩
      · simp at h0
      · exact ⟨q, cap, h0⟩
    refine ⟨⟨2, g, _⟩, ⟨q, cap, rfl, rfl⟩, hfr.trans ⟨hgrow.os, hgrow.tape, hgrow.output, hgrow.size, fun k hk hT => hgrow.block k hk fun e => hT (.inl e.symm)⟩, (hgrow.block _ hlt' (fun e => hne e.symm)).trans hst', fun h => (by simp at h), fun h => (by cases h), fun _ => ⟨hown', ?_⟩⟩
    rcases hloc with h | h
    · exact .inl h
    · exact .inr ⟨_, h, hfr.size⟩
  obtain ⟨q, cap, rfl, rfl⟩ := hs2
  (go_simp; refine hK _ _ ?_; clear hK K)
  iterate 2 ((refine flowU_readE rfl rfl (fun K hK => ?_); apply Exists.intro; apply And.intro; (focus (intro w' hR; have hq := hR.st; rw [if_pos (by first | exact hC | simp)] at hq; obtain ⟨_, _, _, _, _, _, _, e7, _⟩ := hq.cells; have y2 := hR.fr.cell x2 hT2 (by omega); have y3 := hR.fr.cell x3 hT3 (by omega); clear hq hR; go_simp; (try go_bits); exact rfl)); go_simp; (try go_bits); refine hK _ ?_; clear hK K))
  refine flowU_step (puPC g (Value.slice (some ⟨q, 0, none⟩) (xs.length + 1) cap)) (by decide) rfl ⟨undef, _, rfl, rfl⟩ (fun w' hR => ?_) (fun h => absurd rfl h) (fun K hK v s2 hs2 => ?_)
  focus
    have hst' := hR.st
    rw [if_pos (by simp)] at hst'
    have hlt' := (Array.getElem?_eq_some_iff.1 (show w'.heap[b + 6]? = _ from hst')).1
    obtain ⟨_, _, _, _, _, _, _, d7, ff⟩ := hst'.cells
    have f7 := ff 7
    obtain ⟨n1, n2⟩ := hR.new (Nat.le_refl _)
    have hfr := hR.fr
    clear hR ff
    dsimp only at n1 n2
    have hne : ((Value.slice (some ⟨q, 0, none⟩) (xs.length + 1) cap)).ownBlock ≠ some (b + 6) := fun e => by
      obtain ⟨cs, h3⟩ := row_block n1 e
      have h6 : w'.heap[b + 6]? = _ := hst'
      rw [h3] at h6
      injection h6 with h6
      injection h6 with _ h6
      exact absurd h6 (by decide)
    go_simp
    exact ⟨⟨3, g, (Value.slice (some ⟨q, 0, none⟩) (xs.length + 1) cap)⟩, ⟨rfl, rfl⟩, hfr.setCell (.inl (.inr rfl)) _, hst'.set _, fun h => (by simp at h), fun h => (by simp at h), fun _ => ⟨ownsRow_same n1 fun k hk => heap_set_ne (fun e => hne (e ▸ hk)), n2⟩⟩
  obtain ⟨rfl, rfl⟩ := hs2
  (go_simp; refine hK _ _ ?_; clear hK K)
  refine flowU_nil ?_
  intro W4 hR4
  have fr4 := hR4.fr
  have st4 := hR4.st
  rw [if_neg (by simp)] at st4
  dsimp only at st4
  obtain ⟨ro4, at4⟩ := hR4.new (by simp)
  clear hR4
  have sz4 := fr4.size
  have f4 : Fr F W W4 := f3.trans ⟨fr4.os, fr4.tape, fr4.output, fr4.size, fun k hk hT => fr4.block k hk (fun e => hT (by
    rcases e with e | e
    · exact hunF k e
    · rw [e]; exact hCb))⟩
  have fin := push_done (F' := fun k => F k ∨ (W.heap.size ≤ k ∧ k < W4.heap.size)) hC3 s3 hrow3 (fun k hk => .inl (hunF k hk)) hx3 hv3 fr4 st4 ro4 at4 (fun k hk => by
    rcases hk with hk | hk
    · exact .inl hk
    · exact .inr ⟨hk.1, Nat.lt_of_lt_of_le hk.2 sz4⟩) (fun k h1 h2 => .inr ⟨by omega, h2⟩) (fun k hk => by
    rcases hk with hk | hk
    · have := hfl k hk
      omega
    · exact hk.2)
  clear hC3 hrow3 hx3 hv3 ro4 st4 at4 fr4
  go_wp2
  go_ret
  exact ⟨rfl, _, fin, f4, fun k hk => .inl hk, fun k hk => hk.imp id (fun h => h.1)⟩
end
end Go.Proofs.YtcdjdnbdblpofaaDoor

/- Log: its contract. Conditions: the state is one. -/
namespace Go.Proofs.YtcdjdnbdblpofaaDoor
open Go.RowKit Go.Maps
attribute [local go_sem] leftBy leaves
set_option linter.unusedSimpArgs false
set_option linter.unusedVariables false

theorem stA.set6 {W : World} {b : Nat} {lg un : Value} (h : stA W b lg un) (u : Value) : stA (W.setCell ⟨b + 6, 6, none⟩ u) b u un := by
  obtain ⟨hlt, hk⟩ := Array.getElem?_eq_some_iff.1 (show W.heap[b + 6]? = _ from h)
  show (W.heap.modify (b + 6) _)[b + 6]? = _
  rw [Array.getElem?_eq_getElem (by rw [Array.size_modify]; exact hlt), Array.getElem_modify_self, hk]
  rfl
/-- Where the region that notes a log stands. -/
structure loR (W1 : World) (b : Nat) (lg un : Value) (n : Nat) (xs vc : List Value) (s : PuS) (w' : World) : Prop where
  fr : Fr (fun k => lg.ownBlock = some k ∨ k = b + 6) W1 w'
  st : stA w' b (if s.st ≤ 2 then lg else s.u) un
  row : s.st ≤ 1 → w'.ownsRow 0 43 3 lg n xs
  one : s.st = 1 → W1.heap.size ≤ s.g ∧ w'.heap[s.g]? = some (.cells vc.toArray 43 (0, 0))
  new : 2 ≤ s.st → w'.ownsRow 0 43 3 s.u (n + 1) (xs ++ vc) ∧ (s.u.ownBlock = lg.ownBlock ∨ ∃ q, s.u.ownBlock = some q ∧ W1.heap.size ≤ q)



section
variable {W : World} {F : Nat → Prop} {b N : Nat} {L : List Kw} {R : List Chg}

set_option maxRecDepth 100000 in
set_option maxHeartbeats 16000000 in
theorem Log_S (h : SRep W F b N L R) (l : Lg) (hRl : R.length ≤ 1000000) :
    Calls Tryd.prog 19 #[ptr (b + 6), l.v] W (muPost W F b (N + 1) L (.note l :: R) (.int .i64 0)) := by
  have hfl := h.flt
  obtain ⟨un, hC, xs, hrow, hunF, hxs⟩ := h
  obtain ⟨lg, s1, hrl, hlgF⟩ := hC.st
  obtain ⟨i0, hi, hz0, hz1, hz2⟩ := info_parts infoF
  obtain ⟨j0, hj, hy0, hy1, hy2⟩ := info_parts infoL
  have hxl := Lib.hid hxs.length
  have hxl2 : xs.length ≤ 1000000 := by rw [hxl.out]; exact hRl
  have hlt := s1.lt
  have hnl : (lgF R).length ≤ 1000000 := Nat.le_trans (lgF_le R) hRl
  obtain ⟨ga, gc, hlv⟩ : ∃ g cap, lg = .slice g (lgF R).length cap := by
    rcases hrl.2 with ⟨rfl, h0⟩ | ⟨g, cap, cur, rfl, _⟩
    · exact ⟨none, 0, by rw [h0]⟩
    · exact ⟨_, _, rfl⟩
  subst hlv
  have b1 : Below W.heap.size W (((W.alloc (.cells #[.pointer (some ⟨b + 6, 0, none⟩)] 27)).alloc (.cells #[.string l.ad, .slice l.tp l.tn l.tc, .string l.dt] 43)).alloc (.cells #[.int .i64 (lgF R).length] 3)) := (((Below.refl _ W).alloc (Nat.le_refl _) _).alloc (by simp) _).alloc (by simp; omega) _
  have k2 : (((W.alloc (.cells #[.pointer (some ⟨b + 6, 0, none⟩)] 27)).alloc (.cells #[.string l.ad, .slice l.tp l.tn l.tc, .string l.dt] 43)).alloc (.cells #[.int .i64 (lgF R).length] 3)).heap[W.heap.size]? = _ := (Below.heap_alloc _ _ _ (by simp; omega)).trans ((Below.heap_alloc _ _ _ (by simp)).trans (heap_new rfl))
  have k3 : (((W.alloc (.cells #[.pointer (some ⟨b + 6, 0, none⟩)] 27)).alloc (.cells #[.string l.ad, .slice l.tp l.tn l.tc, .string l.dt] 43)).alloc (.cells #[.int .i64 (lgF R).length] 3)).heap[W.heap.size + 1]? = _ := (Below.heap_alloc _ _ _ (by simp)).trans (heap_new (by simp))
  have k5 : (((W.alloc (.cells #[.pointer (some ⟨b + 6, 0, none⟩)] 27)).alloc (.cells #[.string l.ad, .slice l.tp l.tn l.tc, .string l.dt] 43)).alloc (.cells #[.int .i64 (lgF R).length] 3)).heap[W.heap.size + 1 + 1]? = _ := heap_new (by simp)
  have z1 : W.heap.size + 3 ≤ (((W.alloc (.cells #[.pointer (some ⟨b + 6, 0, none⟩)] 27)).alloc (.cells #[.string l.ad, .slice l.tp l.tn l.tc, .string l.dt] 43)).alloc (.cells #[.int .i64 (lgF R).length] 3)).heap.size := by simp
  obtain ⟨_, _, _, _, _, _, d6, d7, _⟩ := s1.cells
  unfold ptr Lg.v
  go_enter Tryd.func19, Tryd.ntmps19
  go_wp2
  generalize ((W.alloc (.cells #[.pointer (some ⟨b + 6, 0, none⟩)] 27)).alloc (.cells #[.string l.ad, .slice l.tp l.tn l.tc, .string l.dt] 43)).alloc (.cells #[.int .i64 (lgF R).length] 3) = W1 at *
  have s1' : stA W1 b (Value.slice ga (lgF R).length gc) un := (b1.block _ hlt).trans s1
  have hlrow1 : W1.ownsRow 0 43 3 (Value.slice ga (lgF R).length gc) ((lgF R).length) (lgC (lgF R)) := ownsRow_same hrl fun k hk => b1.block k (hfl k (hlgF k hk))
  have x2 : W1.cell? ⟨W.heap.size, 0, none⟩ = some (.pointer (some ⟨b + 6, 0, none⟩)) := by simp [World.cell?, k2]
  have x30 : W1.cell? ⟨W.heap.size + 1, 0, none⟩ = some (.string l.ad) := by simp [World.cell?, k3]
  have x31 : W1.cell? ⟨W.heap.size + 1, 1, none⟩ = some (.slice l.tp l.tn l.tc) := by simp [World.cell?, k3]
  have x32 : W1.cell? ⟨W.heap.size + 1, 2, none⟩ = some (.string l.dt) := by simp [World.cell?, k3]
  have hL2 : ¬ ((Value.slice ga (lgF R).length gc).ownBlock = some W.heap.size ∨ W.heap.size = b + 6) := fun h => by
    rcases h with h | h
    · have := hfl _ (hlgF _ h)
      omega
    · omega
  have hL3 : ¬ ((Value.slice ga (lgF R).length gc).ownBlock = some (W.heap.size + 1) ∨ W.heap.size + 1 = b + 6) := fun h => by
    rcases h with h | h
    · have := hfl _ (hlgF _ h)
      omega
    · omega
  have hL5 : ¬ ((Value.slice ga (lgF R).length gc).ownBlock = some (W.heap.size + 1 + 1) ∨ W.heap.size + 1 + 1 = b + 6) := fun h => by
    rcases h with h | h
    · have := hfl _ (hlgF _ h)
      omega
    · omega
  clear d6 d7
  refine wp_flowU (fun k => ([0, 0, 0, 0, 0, 1, 2, 2, 1, 1, 4] : List Nat).getD k 1) (loR W1 b (Value.slice ga (lgF R).length gc) un ((lgF R).length) (lgC (lgF R)) [Value.string l.ad, Value.slice l.tp l.tn l.tc, Value.string l.dt]) (fun s => s.st ≤ 2) (⟨0, 0, undef⟩) (⟨Fr.drew (Fr.refl _ _), s1', fun _ => hlrow1, fun h => (by cases h), fun h => (by simp at h)⟩) (by decide) (by kernel_rfl) (by kernel_rfl) ?_
  iterate 5 ((refine flowU_lateE rfl rfl (fun K hK => ?_); apply Exists.intro; apply And.intro; (focus (intro s0 w' hC hR; have hq := hR.st; rw [if_pos (by first | exact hC | simp)] at hq; obtain ⟨_, _, _, _, _, _, e6, _⟩ := hq.cells; have y2 := hR.fr.cell x2 hL2 (by omega); have y30 := hR.fr.cell x30 hL3 (by omega); have y31 := hR.fr.cell x31 hL3 (by omega); have y32 := hR.fr.cell x32 hL3 (by omega); clear hq hR; go_simp; (try go_bits); exact rfl)); go_simp; (try go_bits); refine hK _ ?_; clear hK K))
  (refine flowU_readE rfl rfl (fun K hK => ?_); apply Exists.intro; apply And.intro; (focus (intro w' hR; have hq := hR.st; rw [if_pos (by first | exact hC | simp)] at hq; obtain ⟨_, _, _, _, _, _, e6, _⟩ := hq.cells; have y2 := hR.fr.cell x2 hL2 (by omega); have y30 := hR.fr.cell x30 hL3 (by omega); have y31 := hR.fr.cell x31 hL3 (by omega); have y32 := hR.fr.cell x32 hL3 (by omega); clear hq hR; go_simp; (try go_bits); exact rfl)); go_simp; (try go_bits); refine hK _ ?_; clear hK K)
  refine flowU_step puPB (by decide) rfl ⟨.slice (some ⟨0, 0, none⟩) 1 1, _, 0, rfl, rfl⟩ (fun w' hR => ?_) (fun _ _ v s2 h => (by obtain ⟨g, _, rfl⟩ := h; exact (by decide : (1 : Nat) ≤ 2))) (fun K hK v s2 hs2 => ?_)
  focus
    have hst' := hR.st
    have hlt' := (Array.getElem?_eq_some_iff.1 (show w'.heap[b + 6]? = _ from hst')).1
    have hfr := hR.fr
    have hro := hR.row (Nat.zero_le _)
    clear hR
    go_simp
    exact ⟨⟨1, w'.heap.size, undef⟩, ⟨_, rfl, rfl⟩, hfr.alloc _, (Below.heap_alloc _ _ _ hlt').trans hst', fun _ => hro.alloc _, fun _ => ⟨hfr.size, heap_new rfl⟩, fun h => (by simp at h)⟩
  obtain ⟨g, rfl, rfl⟩ := hs2
  (go_simp; refine hK _ _ ?_; clear hK K)
  refine flowU_step (puPA ((lgF R).length + 1) g) (by decide) rfl ⟨_, _, 0, 0, rfl, rfl⟩ (fun w' hR => ?_) (fun _ _ v s2 h => (by obtain ⟨_, _, _, rfl⟩ := h; exact (by decide : (2 : Nat) ≤ 2))) (fun K hK v s2 hs2 => ?_)
  focus
    have hst' := hR.st
    have hlt' := (Array.getElem?_eq_some_iff.1 (show w'.heap[b + 6]? = _ from hst')).1
    obtain ⟨hg1, hg2⟩ := hR.one rfl
    have hro := hR.row (Nat.le_refl _)
    have hfr := hR.fr
    clear hR
    obtain ⟨v', w2, hr, hown', hgrow, _, hloc⟩ := run_append_own_at (P := Tryd.prog) w' 0 37 37 43 j0 _ 3 56 Tryd.underlying37 hj hy0 hy1 hy2 rfl (by decide) (Value.slice ga (lgF R).length gc) ((lgF R).length) (lgC (lgF R)) hro ⟨g, 0, none⟩ 1 1 [Value.string l.ad, Value.slice l.tp l.tn l.tc, Value.string l.dt] rfl
      (fun j u hj => by
        have hg3 : w'.heap[g]? = _ := hg2
        rw [World.cell?_of_block (w := w') (w' := w') rfl]
        have hj3 : j = 0 ∨ j = 1 ∨ j = 2 := by
          have := (List.getElem?_eq_some_iff.1 hj).1
          simp at this
          omega
        rcases hj3 with rfl | rfl | rfl <;> simp at hj <;> subst hj <;> simp [Addr.add, World.cell?, hg3]) (by simp [Value.oneCell']) (by unfold maxLen; omega) (by omega) (Nat.zero_le _)
    rw [append_exec (P := Tryd.prog) rfl rfl rfl hr]
    have hne : (Value.slice ga (lgF R).length gc).ownBlock ≠ some (b + 6) := fun e => by
      obtain ⟨cs, h3⟩ := row_block hro e
      have h6 : w'.heap[b + 6]? = _ := hst'
      rw [h3] at h6
      injection h6 with h6
      injection h6 with _ h6
      exact absurd h6 (by decide)
    obtain ⟨q, cap, rfl⟩ : ∃ q cap, v' = .slice (some ⟨q, 0, none⟩) ((lgF R).length + 1) cap := by
      rcases hown'.2 with ⟨_, h0⟩ | ⟨q, cap, cur, h0, _⟩
      · simp at h0
      · exact ⟨q, cap, h0⟩
    refine ⟨⟨2, g, _⟩, ⟨q, cap, rfl, rfl⟩, hfr.trans ⟨hgrow.os, hgrow.tape, hgrow.output, hgrow.size, fun k hk hT => hgrow.block k hk fun e => hT (.inl e.symm)⟩, (hgrow.block _ hlt' (fun e => hne e.symm)).trans hst', fun h => (by simp at h), fun h => (by cases h), fun _ => ⟨hown', ?_⟩⟩
    rcases hloc with h | h
    · exact .inl h
    · exact .inr ⟨_, h, hfr.size⟩
  obtain ⟨ql, capl, rfl, rfl⟩ := hs2
  (go_simp; refine hK _ _ ?_; clear hK K)
  iterate 2 ((refine flowU_readE rfl rfl (fun K hK => ?_); apply Exists.intro; apply And.intro; (focus (intro w' hR; have hq := hR.st; rw [if_pos (by first | exact hC | simp)] at hq; obtain ⟨_, _, _, _, _, _, e6, _⟩ := hq.cells; have y2 := hR.fr.cell x2 hL2 (by omega); have y30 := hR.fr.cell x30 hL3 (by omega); have y31 := hR.fr.cell x31 hL3 (by omega); have y32 := hR.fr.cell x32 hL3 (by omega); clear hq hR; go_simp; (try go_bits); exact rfl)); go_simp; (try go_bits); refine hK _ ?_; clear hK K))
  refine flowU_step (puPC g (Value.slice (some ⟨ql, 0, none⟩) ((lgF R).length + 1) capl)) (by decide) rfl ⟨undef, _, rfl, rfl⟩ (fun w' hR => ?_) (fun h => absurd rfl h) (fun K hK v s2 hs2 => ?_)
  focus
    have hst' := hR.st
    rw [if_pos (by simp)] at hst'
    have hlt' := (Array.getElem?_eq_some_iff.1 (show w'.heap[b + 6]? = _ from hst')).1
    obtain ⟨_, _, _, _, _, _, d6, _, ff⟩ := hst'.cells
    have f6 := ff 6
    obtain ⟨n1, n2⟩ := hR.new (Nat.le_refl _)
    have hfr := hR.fr
    clear hR ff
    dsimp only at n1 n2
    have hne : (Value.slice (some ⟨ql, 0, none⟩) ((lgF R).length + 1) capl).ownBlock ≠ some (b + 6) := fun e => by
      obtain ⟨cs, h3⟩ := row_block n1 e
      have h6 : w'.heap[b + 6]? = _ := hst'
      rw [h3] at h6
      injection h6 with h6
      injection h6 with _ h6
      exact absurd h6 (by decide)
    go_simp
    exact ⟨⟨3, g, Value.slice (some ⟨ql, 0, none⟩) ((lgF R).length + 1) capl⟩, ⟨rfl, rfl⟩, hfr.setCell (.inl (.inr rfl)) _, hst'.set6 _, fun h => (by simp at h), fun h => (by simp at h), fun _ => ⟨ownsRow_same n1 fun k hk => heap_set_ne (fun e => hne (e ▸ hk)), n2⟩⟩
  obtain ⟨rfl, rfl⟩ := hs2
  (go_simp; refine hK _ _ ?_; clear hK K)
  refine flowU_nil ?_
  intro W3 hR3
  have fr3 := hR3.fr
  have s3 : stA W3 b (Value.slice (some ⟨ql, 0, none⟩) ((lgF R).length + 1) capl) un := by
    have := hR3.st
    rw [if_neg (by simp)] at this
    exact this
  obtain ⟨ro3, at3⟩ := hR3.new (by simp)
  clear hR3 s1' hlrow1
  dsimp only at ro3 at3
  have sz3 := fr3.size
  have h6 : W.heap[b + 6]? = _ := s1
  have b3 : ∀ k, k < W.heap.size → (∀ cs f, W.heap[k]? ≠ some (.cells cs 43 f)) → k ≠ b + 6 → W3.heap[k]? = W.heap[k]? := fun k hk h1 h2 => (fr3.block k (by omega) (fun hT => by
    rcases hT with hT | hT
    · obtain ⟨cs, h3⟩ := row_block hrl hT
      exact h1 _ _ h3
    · exact h2 hT)).trans (b1.block k hk)
  have hMap : ∀ {ι : Type} {kt : TypeId} {kv : ι → Value} {ok : ι → Prop} {mb : Nat} {z : Value} {f : ι → Option Value}, MV W kt kv ok mb N z f → MV W3 kt kv ok mb (N + 1) z f := fun h => (h.at_block (by
    obtain ⟨es, clock, hm⟩ := h.isMap
    exact b3 _ h.lt (fun cs f e => by rw [hm] at e; cases e) (fun e => by rw [e, h6] at hm; cases hm))).mono (by omega)
  have f3 : Fr F W W3 := ((Fr.refl _ W).below b1).trans ⟨fr3.os, fr3.tape, fr3.output, fr3.size, fun k hk hT => fr3.block k hk (fun e => hT (by
    rcases e with e | e
    · exact hlgF k e
    · rw [e]; exact hC.fb 6 (by omega)))⟩
  have hrow3 : W3.ownsRow 0 1 1 un xs.length xs := by
    rw [hxl.out]
    refine ownsRow_same hrow fun k hk => ?_
    obtain ⟨cs, h3⟩ := row_block hrow hk
    exact b3 k (hfl k (hunF k hk)) (fun cs' f e => by rw [h3] at e; injection e with e; injection e with _ e; exact absurd e (by decide)) (fun e => by rw [e, h6] at h3; injection h3 with h3; injection h3 with _ h3; exact absurd h3 (by decide))
  have hBx : Boxes F W W3 := fun q cs t ht hq he => (b3 q (hfl q hq) (fun cs' f e => by rw [he] at e; injection e with e; injection e with _ e; subst e; exact absurd ht (by decide)) (fun e => by rw [e, h6] at he; injection he with he; injection he with _ he; subst he; exact absurd ht (by decide))).trans he
  replace k2 := (fr3.block _ (by omega) hL2).trans k2
  replace k5 := (fr3.block _ (by omega) hL5).trans k5
  replace x2 := fr3.cell x2 hL2 (by omega)
  have hC3 : CRep W3 (fun k => F k ∨ (W.heap.size ≤ k ∧ k < W3.heap.size)) b (N + 1) L (.note l :: R) un := by
    refine ⟨fun k hk => ?_, fun j hj => .inl (hC.fb j hj), ⟨_, s3, ?_, fun k hk => ?_⟩, hMap hC.m0, hMap hC.m1, hMap hC.m2, hMap hC.m3, hMap hC.m4, hMap hC.m5⟩
    · rcases hk with hk | hk
      · have := hfl k hk
        omega
      · exact hk.2
    · have e1 : lgF (.note l :: R) = lgF R ++ [l] := rfl
      have e2 : lgC (lgF R ++ [l]) = lgC (lgF R) ++ [Value.string l.ad, Value.slice l.tp l.tn l.tc, Value.string l.dt] := by simp [lgC, Lg.c]
      rw [e1, e2, List.length_append]
      exact ro3
    · rcases at3 with h | ⟨q, h, hq⟩
      · exact .inl (hlgF k (h ▸ hk))
      · obtain rfl : q = k := Option.some.inj (h.symm.trans hk)
        obtain ⟨cs, h3⟩ := row_block ro3 hk
        exact .inr ⟨by omega, (Array.getElem?_eq_some_iff.1 h3).1⟩
  have hx3 : unL W3 (fun k => F k ∨ (W.heap.size ≤ k ∧ k < W3.heap.size)) b R xs := hxs.stays hBx fun k hk => .inl hk
  have hv3 : unAt W3 (fun k => F k ∨ (W.heap.size ≤ k ∧ k < W3.heap.size)) b R (.note l) (.func (.func 39) #[] #[.pointer (some ⟨W.heap.size, 0, none⟩), .pointer (some ⟨W.heap.size + 1 + 1, 0, none⟩)]) :=
    ⟨W.heap.size, W.heap.size + 1 + 1, rfl, ⟨.inr ⟨by omega, by omega⟩, k2⟩, ⟨.inr ⟨by omega, by omega⟩, k5⟩⟩
  have hT2 : ¬ (un.ownBlock = some W.heap.size ∨ W.heap.size = b + 6) := fun h => by
    rcases h with h | h
    · have := hfl _ (hunF _ h)
      omega
    · omega
  have hCb := hC.fb 6 (by omega)
  clear hC hxs hrow hrl ro3 at3 hMap hBx h6 hy0 hy1 hy2 hj
  go_wp2
  refine wp_flowU (fun k => ([0, 0, 0, 0, 0, 1, 2, 2, 1, 1, 4] : List Nat).getD k 1) (puR W3 b (Value.slice (some ⟨ql, 0, none⟩) ((lgF R).length + 1) capl) un xs (.func (.func 39) #[] #[.pointer (some ⟨W.heap.size, 0, none⟩), .pointer (some ⟨W.heap.size + 1 + 1, 0, none⟩)])) (fun s => s.st ≤ 2) (⟨0, 0, undef⟩) (⟨Fr.drew (Fr.refl _ _), s3, fun _ => hrow3, fun h => (by cases h), fun h => (by simp at h)⟩) (by decide) (by kernel_rfl) (by kernel_rfl) ?_
  iterate 5 ((refine flowU_lateE rfl rfl (fun K hK => ?_); apply Exists.intro; apply And.intro; (focus (intro s0 w' hC hR; have hq := hR.st; rw [if_pos (by first | exact hC | simp)] at hq; obtain ⟨_, _, _, _, _, _, _, e7, _⟩ := hq.cells; have y2 := hR.fr.cell x2 hT2 (by omega); clear hq hR; go_simp; (try go_bits); exact rfl)); go_simp; (try go_bits); refine hK _ ?_; clear hK K))
  (refine flowU_readE rfl rfl (fun K hK => ?_); apply Exists.intro; apply And.intro; (focus (intro w' hR; have hq := hR.st; rw [if_pos (by first | exact hC | simp)] at hq; obtain ⟨_, _, _, _, _, _, _, e7, _⟩ := hq.cells; have y2 := hR.fr.cell x2 hT2 (by omega); clear hq hR; go_simp; (try go_bits); exact rfl)); go_simp; (try go_bits); refine hK _ ?_; clear hK K)
  refine flowU_step puPB (by decide) rfl ⟨.slice (some ⟨0, 0, none⟩) 1 1, _, 0, rfl, rfl⟩ (fun w' hR => ?_) (fun _ _ v s2 h => (by obtain ⟨g, _, rfl⟩ := h; exact (by decide : (1 : Nat) ≤ 2))) (fun K hK v s2 hs2 => ?_)
  focus
    have hst' := hR.st
    have hlt' := (Array.getElem?_eq_some_iff.1 (show w'.heap[b + 6]? = _ from hst')).1
    have hfr := hR.fr
    have hro := hR.row (Nat.zero_le _)
    clear hR
    go_simp
    exact ⟨⟨1, w'.heap.size, undef⟩, ⟨_, rfl, rfl⟩, hfr.alloc _, (Below.heap_alloc _ _ _ hlt').trans hst', fun _ => hro.alloc _, fun _ => ⟨hfr.size, heap_new rfl⟩, fun h => (by simp at h)⟩
  obtain ⟨g, rfl, rfl⟩ := hs2
  (go_simp; refine hK _ _ ?_; clear hK K)
  refine flowU_step (puPA (xs.length + 1) g) (by decide) rfl ⟨_, _, 0, 0, rfl, rfl⟩ (fun w' hR => ?_) (fun _ _ v s2 h => (by obtain ⟨_, _, _, rfl⟩ := h; exact (by decide : (2 : Nat) ≤ 2))) (fun K hK v s2 hs2 => ?_)
  focus
    have hst' := hR.st
    have hlt' := (Array.getElem?_eq_some_iff.1 (show w'.heap[b + 6]? = _ from hst')).1
    obtain ⟨hg1, hg2⟩ := hR.one rfl
    have hro := hR.row (Nat.le_refl _)
    have hfr := hR.fr
    clear hR
    have hgc : w'.cell? ⟨g, 0, none⟩ = some (.func (.func 39) #[] #[.pointer (some ⟨W.heap.size, 0, none⟩), .pointer (some ⟨W.heap.size + 1 + 1, 0, none⟩)]) := by
      have hg3 : w'.heap[g]? = _ := hg2
      simp [World.cell?, hg3]
    obtain ⟨v', w2, hr, hown', hgrow, _, hloc⟩ := run_append_own_at (P := Tryd.prog) w' 0 71 71 1 i0 .nilFunc 1 8 Tryd.underlying71 hi hz0 hz1 hz2 rfl (by decide) un xs.length xs hro ⟨g, 0, none⟩ 1 1 [.func (.func 39) #[] #[.pointer (some ⟨W.heap.size, 0, none⟩), .pointer (some ⟨W.heap.size + 1 + 1, 0, none⟩)]] rfl
      (fun j u hj => by
        cases j with
        | zero => simp at hj; subst hj; simpa [Addr.add] using hgc
        | succ j => simp at hj) (by simp [Value.oneCell']) (by unfold maxLen; omega) (by omega) (Nat.zero_le _)
    rw [append_exec (P := Tryd.prog) rfl rfl rfl hr]
    have hne : un.ownBlock ≠ some (b + 6) := fun e => by
      obtain ⟨cs, h3⟩ := row_block hro e
      have h6 : w'.heap[b + 6]? = _ := hst'
      rw [h3] at h6
      injection h6 with h6
      injection h6 with _ h6
      exact absurd h6 (by decide)
    obtain ⟨q, cap, rfl⟩ : ∃ q cap, v' = .slice (some ⟨q, 0, none⟩) (xs.length + 1) cap := by
      rcases hown'.2 with ⟨_, h0⟩ | ⟨q, cap, cur, h0, _⟩
      · simp at h0
      · exact ⟨q, cap, h0⟩
    refine ⟨⟨2, g, _⟩, ⟨q, cap, rfl, rfl⟩, hfr.trans ⟨hgrow.os, hgrow.tape, hgrow.output, hgrow.size, fun k hk hT => hgrow.block k hk fun e => hT (.inl e.symm)⟩, (hgrow.block _ hlt' (fun e => hne e.symm)).trans hst', fun h => (by simp at h), fun h => (by cases h), fun _ => ⟨hown', ?_⟩⟩
    rcases hloc with h | h
    · exact .inl h
    · exact .inr ⟨_, h, hfr.size⟩
  obtain ⟨q, cap, rfl, rfl⟩ := hs2
  (go_simp; refine hK _ _ ?_; clear hK K)
  iterate 2 ((refine flowU_readE rfl rfl (fun K hK => ?_); apply Exists.intro; apply And.intro; (focus (intro w' hR; have hq := hR.st; rw [if_pos (by first | exact hC | simp)] at hq; obtain ⟨_, _, _, _, _, _, _, e7, _⟩ := hq.cells; have y2 := hR.fr.cell x2 hT2 (by omega); clear hq hR; go_simp; (try go_bits); exact rfl)); go_simp; (try go_bits); refine hK _ ?_; clear hK K))
  refine flowU_step (puPC g (Value.slice (some ⟨q, 0, none⟩) (xs.length + 1) cap)) (by decide) rfl ⟨undef, _, rfl, rfl⟩ (fun w' hR => ?_) (fun h => absurd rfl h) (fun K hK v s2 hs2 => ?_)
  focus
    have hst' := hR.st
    rw [if_pos (by simp)] at hst'
    have hlt' := (Array.getElem?_eq_some_iff.1 (show w'.heap[b + 6]? = _ from hst')).1
    obtain ⟨_, _, _, _, _, _, _, d7, ff⟩ := hst'.cells
    have f7 := ff 7
    obtain ⟨n1, n2⟩ := hR.new (Nat.le_refl _)
    have hfr := hR.fr
    clear hR ff
    dsimp only at n1 n2
    have hne : ((Value.slice (some ⟨q, 0, none⟩) (xs.length + 1) cap)).ownBlock ≠ some (b + 6) := fun e => by
      obtain ⟨cs, h3⟩ := row_block n1 e
      have h6 : w'.heap[b + 6]? = _ := hst'
      rw [h3] at h6
      injection h6 with h6
      injection h6 with _ h6
      exact absurd h6 (by decide)
    go_simp
    exact ⟨⟨3, g, (Value.slice (some ⟨q, 0, none⟩) (xs.length + 1) cap)⟩, ⟨rfl, rfl⟩, hfr.setCell (.inl (.inr rfl)) _, hst'.set _, fun h => (by simp at h), fun h => (by simp at h), fun _ => ⟨ownsRow_same n1 fun k hk => heap_set_ne (fun e => hne (e ▸ hk)), n2⟩⟩
  obtain ⟨rfl, rfl⟩ := hs2
  (go_simp; refine hK _ _ ?_; clear hK K)
  refine flowU_nil ?_
  intro W4 hR4
  have fr4 := hR4.fr
  have st4 := hR4.st
  rw [if_neg (by simp)] at st4
  dsimp only at st4
  obtain ⟨ro4, at4⟩ := hR4.new (by simp)
  clear hR4
  have sz4 := fr4.size
  have f4 : Fr F W W4 := f3.trans ⟨fr4.os, fr4.tape, fr4.output, fr4.size, fun k hk hT => fr4.block k hk (fun e => hT (by
    rcases e with e | e
    · exact hunF k e
    · rw [e]; exact hCb))⟩
  have fin := push_done (F' := fun k => F k ∨ (W.heap.size ≤ k ∧ k < W4.heap.size)) hC3 s3 hrow3 (fun k hk => .inl (hunF k hk)) hx3 hv3 fr4 st4 ro4 at4 (fun k hk => by
    rcases hk with hk | hk
    · exact .inl hk
    · exact .inr ⟨hk.1, Nat.lt_of_lt_of_le hk.2 sz4⟩) (fun k h1 h2 => .inr ⟨by omega, h2⟩) (fun k hk => by
    rcases hk with hk | hk
    · have := hfl k hk
      omega
    · exact hk.2)
  clear hC3 hrow3 hx3 hv3 ro4 st4 at4 fr4
  go_wp2
  go_ret
  exact ⟨rfl, _, fin, f4, fun k hk => .inl hk, fun k hk => hk.imp id (fun h => h.1)⟩
end
end Go.Proofs.YtcdjdnbdblpofaaDoor

/- WarmCell: its contract. Conditions: the state is one. -/
namespace Go.Proofs.YtcdjdnbdblpofaaDoor
open Go.RowKit Go.Maps
attribute [local go_sem] leftBy leaves
set_option linter.unusedSimpArgs false
set_option linter.unusedVariables false


theorem cells5w {w : World} {p : Nat} {c0 c1 c2 c3 c4 : Value} {t : TypeId} (h : w.heap[p]? = some (.cells #[c0, c1, c2, c3, c4] t (0, 0))) : w.cell? ⟨p, 0, none⟩ = some c0 ∧ w.cell? ⟨p, 1, none⟩ = some c1 ∧ w.cell? ⟨p, 2, none⟩ = some c2 ∧ w.cell? ⟨p, 3, none⟩ = some c3 ∧ w.cell? ⟨p, 4, none⟩ = some c4 := by
  refine ⟨?_, ?_, ?_, ?_, ?_⟩ <;> simp [World.cell?, h]

section
variable {W : World} {F : Nat → Prop} {b N : Nat} {L : List Kw} {R : List Chg}

set_option maxRecDepth 100000 in
set_option maxHeartbeats 8000000 in
theorem WarmCell_old (h : SRep W F b N L R) {a : ByteArray} {k : Nat} (ha : okP (a, k)) (hw : ceF R (a, k) = true) :
    Calls Tryd.prog 24 #[ptr (b + 6), .string a, W4 k] W (muPost W F b (N + 1) L R (.bool true)) := by
  have hfl := h.flt
  have hS := fun (w' : World) (hs : W.heap.size ≤ w'.heap.size) (hb : ∀ k, F k → w'.heap[k]? = W.heap[k]?) => h.same hs hb
  obtain ⟨un, hC, hu⟩ := h
  obtain ⟨lg, s1, hrl, hlgF⟩ := hC.st
  have hlt := s1.lt
  have hl := hC.m5.look1 keyP Tryd.underlying70 zeroB (a, k) ha
  rw [hw] at hl
  unfold spW spV at hl
  dsimp only at hl
  clear hw
  have b1 : Below W.heap.size W (((W.alloc (.cells #[.pointer (some ⟨b + 6, 0, none⟩)] 27)).alloc (.cells #[.int .u64 (lb k 0 : Nat), .int .u64 (lb k 1 : Nat), .int .u64 (lb k 2 : Nat), .int .u64 (lb k 3 : Nat)] 25)).alloc (.cells #[.string a, .int .u64 (lb k 0 : Nat), .int .u64 (lb k 1 : Nat), .int .u64 (lb k 2 : Nat), .int .u64 (lb k 3 : Nat)] 83)) := (((Below.refl _ W).alloc (Nat.le_refl _) _).alloc (by simp) _).alloc (by simp; omega) _
  have k2 : (((W.alloc (.cells #[.pointer (some ⟨b + 6, 0, none⟩)] 27)).alloc (.cells #[.int .u64 (lb k 0 : Nat), .int .u64 (lb k 1 : Nat), .int .u64 (lb k 2 : Nat), .int .u64 (lb k 3 : Nat)] 25)).alloc (.cells #[.string a, .int .u64 (lb k 0 : Nat), .int .u64 (lb k 1 : Nat), .int .u64 (lb k 2 : Nat), .int .u64 (lb k 3 : Nat)] 83)).heap[W.heap.size]? = _ := (Below.heap_alloc _ _ _ (by simp; omega)).trans ((Below.heap_alloc _ _ _ (by simp)).trans (heap_new rfl))
  have k3 : (((W.alloc (.cells #[.pointer (some ⟨b + 6, 0, none⟩)] 27)).alloc (.cells #[.int .u64 (lb k 0 : Nat), .int .u64 (lb k 1 : Nat), .int .u64 (lb k 2 : Nat), .int .u64 (lb k 3 : Nat)] 25)).alloc (.cells #[.string a, .int .u64 (lb k 0 : Nat), .int .u64 (lb k 1 : Nat), .int .u64 (lb k 2 : Nat), .int .u64 (lb k 3 : Nat)] 83)).heap[W.heap.size + 1 + 1]? = _ := heap_new (by simp)
  have z1 : W.heap.size + 3 ≤ (((W.alloc (.cells #[.pointer (some ⟨b + 6, 0, none⟩)] 27)).alloc (.cells #[.int .u64 (lb k 0 : Nat), .int .u64 (lb k 1 : Nat), .int .u64 (lb k 2 : Nat), .int .u64 (lb k 3 : Nat)] 25)).alloc (.cells #[.string a, .int .u64 (lb k 0 : Nat), .int .u64 (lb k 1 : Nat), .int .u64 (lb k 2 : Nat), .int .u64 (lb k 3 : Nat)] 83)).heap.size := by simp
  unfold ptr
  go_enter Tryd.func24, Tryd.ntmps24
  go_wp2
  generalize ((W.alloc (.cells #[.pointer (some ⟨b + 6, 0, none⟩)] 27)).alloc (.cells #[.int .u64 (lb k 0 : Nat), .int .u64 (lb k 1 : Nat), .int .u64 (lb k 2 : Nat), .int .u64 (lb k 3 : Nat)] 25)).alloc (.cells #[.string a, .int .u64 (lb k 0 : Nat), .int .u64 (lb k 1 : Nat), .int .u64 (lb k 2 : Nat), .int .u64 (lb k 3 : Nat)] 83) = W1 at *
  have s1' : stA W1 b lg un := (b1.block _ hlt).trans s1
  have hl1 := Lib.hid fun W' (e : W'.heap[b + 5]? = W1.heap[b + 5]?) => hl W' (e.trans (b1.block _ (by omega)))
  clear hl
  obtain ⟨_, _, _, _, _, d4, _⟩ := s1'.cells
  have x2 : W1.cell? ⟨W.heap.size, 0, none⟩ = some (.pointer (some ⟨b + 6, 0, none⟩)) := by simp [World.cell?, k2]
  obtain ⟨x30, x31, x32, x33, x34⟩ := cells5w k3
  refine wp_flowU (fun k => ([1, 1, 1, 1, 1, 1, 1, 1, 1, 1] : List Nat).getD k 1) (fun (_ : Unit) w' => Fr (fun _ => False) W1 w') (fun _ => True) (()) (Fr.drew (Fr.refl _ _)) trivial (by kernel_rfl) (by kernel_rfl) ?_
  iterate 3 ((refine flowU_readE rfl rfl (fun K hK => ?_); apply Exists.intro; apply And.intro; (focus (intro w' hR; have y2 := hR.cell x2 id (by omega); have y30 := hR.cell x30 id (by omega); have y31 := hR.cell x31 id (by omega); have y32 := hR.cell x32 id (by omega); have y33 := hR.cell x33 id (by omega); have y34 := hR.cell x34 id (by omega); have y4 := hR.cell d4 id (by omega); have hlw := hl1.out w' (hR.block _ (by omega) id); clear hR; go_simp; (try go_bits); exact rfl)); go_simp; (try go_bits); refine hK _ ?_; clear hK K))
  iterate 6 (first | (refine flowU_skip rfl (fun K hK => ?_); go_simp; (try go_bits); refine hK _ ?_; clear hK K) | (refine flowU_readE rfl rfl (fun K hK => ?_); apply Exists.intro; apply And.intro; (focus (intro w' hR; have y2 := hR.cell x2 id (by omega); have y30 := hR.cell x30 id (by omega); have y31 := hR.cell x31 id (by omega); have y32 := hR.cell x32 id (by omega); have y33 := hR.cell x33 id (by omega); have y34 := hR.cell x34 id (by omega); have y4 := hR.cell d4 id (by omega); have hlw := hl1.out w' (hR.block _ (by omega) id); clear hR; go_simp; (try go_bits); exact rfl)); go_simp; (try go_bits); refine hK _ ?_; clear hK K))
  (refine flowU_readE rfl rfl (fun K hK => ?_); apply Exists.intro; apply And.intro; (focus (intro w' hR; have y2 := hR.cell x2 id (by omega); have y30 := hR.cell x30 id (by omega); have y31 := hR.cell x31 id (by omega); have y32 := hR.cell x32 id (by omega); have y33 := hR.cell x33 id (by omega); have y34 := hR.cell x34 id (by omega); have y4 := hR.cell d4 id (by omega); have hlw := hl1.out w' (hR.block _ (by omega) id); clear hR; go_simp; (try go_bits); exact rfl)); go_simp; (try go_bits); refine hK _ ?_; clear hK K)
  refine flowU_nil ?_
  intro w' hR
  have y2 := hR.cell x2 id (by omega)
  go_wp2
  go_ret
  exact ⟨rfl, F, (hS w' (Nat.le_trans (by omega) hR.size) (fun k hk => (hR.block k (by have := hfl k hk; omega) id).trans (b1.block k (hfl k hk)))).mono (fun _ h => h) (by omega) (fun k hk => by have := hfl k hk; have := hR.size; omega), ((Fr.refl _ W).below b1).trans ⟨hR.os, hR.tape, hR.output, hR.size, fun k hk _ => hR.block k hk id⟩, fun _ h => h, fun _ h => .inl h⟩

set_option maxRecDepth 100000 in
set_option maxHeartbeats 16000000 in
theorem WarmCell_new (h : SRep W F b N L R) {a : ByteArray} {k : Nat} (ha : okP (a, k)) (hw : ceF R (a, k) = false) (hRl : R.length ≤ 1000000) (hN : N ≤ 1000000) :
    Calls Tryd.prog 24 #[ptr (b + 6), .string a, W4 k] W (muPost W F b (N + 1) L (.cell (a, k) :: R) (.bool false)) := by
  have hfl := h.flt
  obtain ⟨un, hC, xs, hrow, hunF, hxs⟩ := h
  obtain ⟨lg, s1, hrl, hlgF⟩ := hC.st
  obtain ⟨i0, hi, hz0, hz1, hz2⟩ := info_parts infoF
  have hxl := Lib.hid hxs.length
  have hxl2 : xs.length ≤ 1000000 := by rw [hxl.out]; exact hRl
  have hlt := s1.lt
  have hl := hC.m5.look1 keyP Tryd.underlying70 zeroB (a, k) ha
  rw [hw] at hl
  unfold spW spV at hl
  dsimp only at hl
  have b1 : Below W.heap.size W (((W.alloc (.cells #[.pointer (some ⟨b + 6, 0, none⟩)] 27)).alloc (.cells #[.int .u64 (lb k 0 : Nat), .int .u64 (lb k 1 : Nat), .int .u64 (lb k 2 : Nat), .int .u64 (lb k 3 : Nat)] 25)).alloc (.cells #[.string a, .int .u64 (lb k 0 : Nat), .int .u64 (lb k 1 : Nat), .int .u64 (lb k 2 : Nat), .int .u64 (lb k 3 : Nat)] 83)) := (((Below.refl _ W).alloc (Nat.le_refl _) _).alloc (by simp) _).alloc (by simp; omega) _
  have k2 : (((W.alloc (.cells #[.pointer (some ⟨b + 6, 0, none⟩)] 27)).alloc (.cells #[.int .u64 (lb k 0 : Nat), .int .u64 (lb k 1 : Nat), .int .u64 (lb k 2 : Nat), .int .u64 (lb k 3 : Nat)] 25)).alloc (.cells #[.string a, .int .u64 (lb k 0 : Nat), .int .u64 (lb k 1 : Nat), .int .u64 (lb k 2 : Nat), .int .u64 (lb k 3 : Nat)] 83)).heap[W.heap.size]? = _ := (Below.heap_alloc _ _ _ (by simp; omega)).trans ((Below.heap_alloc _ _ _ (by simp)).trans (heap_new rfl))
  have k3 : (((W.alloc (.cells #[.pointer (some ⟨b + 6, 0, none⟩)] 27)).alloc (.cells #[.int .u64 (lb k 0 : Nat), .int .u64 (lb k 1 : Nat), .int .u64 (lb k 2 : Nat), .int .u64 (lb k 3 : Nat)] 25)).alloc (.cells #[.string a, .int .u64 (lb k 0 : Nat), .int .u64 (lb k 1 : Nat), .int .u64 (lb k 2 : Nat), .int .u64 (lb k 3 : Nat)] 83)).heap[W.heap.size + 1 + 1]? = _ := heap_new (by simp)
  have z1 : W.heap.size + 3 ≤ (((W.alloc (.cells #[.pointer (some ⟨b + 6, 0, none⟩)] 27)).alloc (.cells #[.int .u64 (lb k 0 : Nat), .int .u64 (lb k 1 : Nat), .int .u64 (lb k 2 : Nat), .int .u64 (lb k 3 : Nat)] 25)).alloc (.cells #[.string a, .int .u64 (lb k 0 : Nat), .int .u64 (lb k 1 : Nat), .int .u64 (lb k 2 : Nat), .int .u64 (lb k 3 : Nat)] 83)).heap.size := by simp
  unfold ptr
  go_enter Tryd.func24, Tryd.ntmps24
  go_wp2
  generalize ((W.alloc (.cells #[.pointer (some ⟨b + 6, 0, none⟩)] 27)).alloc (.cells #[.int .u64 (lb k 0 : Nat), .int .u64 (lb k 1 : Nat), .int .u64 (lb k 2 : Nat), .int .u64 (lb k 3 : Nat)] 25)).alloc (.cells #[.string a, .int .u64 (lb k 0 : Nat), .int .u64 (lb k 1 : Nat), .int .u64 (lb k 2 : Nat), .int .u64 (lb k 3 : Nat)] 83) = W1 at *
  have s1' : stA W1 b lg un := (b1.block _ hlt).trans s1
  have hl1 := Lib.hid fun W' (e : W'.heap[b + 5]? = W1.heap[b + 5]?) => hl W' (e.trans (b1.block _ (by omega)))
  clear hl
  obtain ⟨_, _, _, _, _, d4, _, d7, _⟩ := s1'.cells
  have x2 : W1.cell? ⟨W.heap.size, 0, none⟩ = some (.pointer (some ⟨b + 6, 0, none⟩)) := by simp [World.cell?, k2]
  obtain ⟨x30, x31, x32, x33, x34⟩ := cells5w k3
  refine wp_flowU (fun k => ([1, 1, 1, 1, 1, 1, 1, 1, 1, 1] : List Nat).getD k 1) (fun (_ : Unit) w' => Fr (fun _ => False) W1 w') (fun _ => True) (()) (Fr.drew (Fr.refl _ _)) trivial (by kernel_rfl) (by kernel_rfl) ?_
  iterate 3 ((refine flowU_readE rfl rfl (fun K hK => ?_); apply Exists.intro; apply And.intro; (focus (intro w' hR; have y2 := hR.cell x2 id (by omega); have y30 := hR.cell x30 id (by omega); have y31 := hR.cell x31 id (by omega); have y32 := hR.cell x32 id (by omega); have y33 := hR.cell x33 id (by omega); have y34 := hR.cell x34 id (by omega); have y4 := hR.cell d4 id (by omega); have hlw := hl1.out w' (hR.block _ (by omega) id); clear hR; go_simp; (try go_bits); exact rfl)); go_simp; (try go_bits); refine hK _ ?_; clear hK K))
  iterate 6 (first | (refine flowU_skip rfl (fun K hK => ?_); go_simp; (try go_bits); refine hK _ ?_; clear hK K) | (refine flowU_readE rfl rfl (fun K hK => ?_); apply Exists.intro; apply And.intro; (focus (intro w' hR; have y2 := hR.cell x2 id (by omega); have y30 := hR.cell x30 id (by omega); have y31 := hR.cell x31 id (by omega); have y32 := hR.cell x32 id (by omega); have y33 := hR.cell x33 id (by omega); have y34 := hR.cell x34 id (by omega); have y4 := hR.cell d4 id (by omega); have hlw := hl1.out w' (hR.block _ (by omega) id); clear hR; go_simp; (try go_bits); exact rfl)); go_simp; (try go_bits); refine hK _ ?_; clear hK K))
  (refine flowU_readE rfl rfl (fun K hK => ?_); apply Exists.intro; apply And.intro; (focus (intro w' hR; have y2 := hR.cell x2 id (by omega); have y30 := hR.cell x30 id (by omega); have y31 := hR.cell x31 id (by omega); have y32 := hR.cell x32 id (by omega); have y33 := hR.cell x33 id (by omega); have y34 := hR.cell x34 id (by omega); have y4 := hR.cell d4 id (by omega); have hlw := hl1.out w' (hR.block _ (by omega) id); clear hR; go_simp; (try go_bits); exact rfl)); go_simp; (try go_bits); refine hK _ ?_; clear hK K)
  refine flowU_nil ?_
  intro W2 hR2
  have sz2 := hR2.size
  have b2 : ∀ k, k < W.heap.size → W2.heap[k]? = W.heap[k]? := fun k hk => (hR2.block k (by omega) id).trans (b1.block k hk)
  replace k2 := (hR2.block _ (by omega) id).trans k2
  replace k3 := (hR2.block _ (by omega) id).trans k3
  replace x2 := hR2.cell x2 id (by omega)
  replace x30 := hR2.cell x30 id (by omega)
  replace x31 := hR2.cell x31 id (by omega)
  replace x32 := hR2.cell x32 id (by omega)
  replace x33 := hR2.cell x33 id (by omega)
  replace x34 := hR2.cell x34 id (by omega)
  replace d4 := hR2.cell d4 id (by omega)
  have f2 : Fr F W W2 := ((Fr.refl _ W).below b1).trans ⟨hR2.os, hR2.tape, hR2.output, hR2.size, fun k hk _ => hR2.block k hk id⟩
  have m5 := hC.m5.at_block (b2 _ (by omega))
  clear hl1 s1' b1 hR2
  go_wp2
  refine wp_flowU (fun k => ([1, 1, 1, 1, 1, 2] : List Nat).getD k 1) (mpV W2 83 spW okP (b + 5) N (.bool false) (fun p => if ceF R p then some (.bool true) else none) (fun p => if p = (a, k) then some (.bool true) else if ceF R p then some (.bool true) else none)) (fun _ => True) (false) (⟨Fr.drew (Fr.refl _ _), m5⟩) trivial (by kernel_rfl) (by kernel_rfl) ?_
  iterate 5 ((refine flowU_readE rfl rfl (fun K hK => ?_); apply Exists.intro; apply And.intro; (focus (intro w' hR; have y2 := hR.fr.cell x2 (by omega) (by omega); have y30 := hR.fr.cell x30 (by omega) (by omega); have y31 := hR.fr.cell x31 (by omega) (by omega); have y32 := hR.fr.cell x32 (by omega) (by omega); have y33 := hR.fr.cell x33 (by omega) (by omega); have y34 := hR.fr.cell x34 (by omega) (by omega); have y4 := hR.fr.cell d4 (by omega) (by omega); clear hR; go_simp; (try go_bits); exact rfl)); go_simp; (try go_bits); refine hK _ ?_; clear hK K))
  refine flowU_step (fun v s => v = undef ∧ s = true) (by decide) rfl ⟨undef, true, rfl, rfl⟩ (fun w' hR => ?_) (fun _ _ _ _ _ => trivial) (fun K hK v s2 hs2 => ?_)
  focus
    have hm := hR.now
    rw [if_neg (by simp)] at hm
    obtain ⟨w2, hrun, hm2, hgr⟩ := hm.put keyP Tryd.underlying70 (by unfold maxLen; omega) (a, k) ha (.bool true)
    have hfr := hR.fr
    clear hR hm
    unfold spW spV at hrun
    dsimp only at hrun
    go_simp
    exact ⟨hfr.trans ⟨hgr.os, hgr.tape, hgr.output, hgr.size, fun j hj hT => hgr.block j hj (by simpa using hT)⟩, by rw [if_pos rfl]; exact hm2⟩
  obtain ⟨rfl, rfl⟩ := hs2
  (go_simp; refine hK _ _ ?_; clear hK K)
  refine flowU_nil ?_
  intro W3 hR3
  have n4 := hR3.now
  rw [if_pos rfl] at n4
  have fr3 := hR3.fr
  clear hR3
  have sz3 := fr3.size
  have b3 : ∀ k, k < W.heap.size → k ≠ b + 5 → W3.heap[k]? = W.heap[k]? := fun k hk hn => (fr3.block k (by omega) hn).trans (b2 k hk)
  replace k2 := (fr3.block _ (by omega) (by omega)).trans k2
  replace k3 := (fr3.block _ (by omega) (by omega)).trans k3
  replace x2 := fr3.cell x2 (by omega) (by omega)
  replace x30 := fr3.cell x30 (by omega) (by omega)
  replace x31 := fr3.cell x31 (by omega) (by omega)
  replace x32 := fr3.cell x32 (by omega) (by omega)
  replace x33 := fr3.cell x33 (by omega) (by omega)
  replace x34 := fr3.cell x34 (by omega) (by omega)
  have f3 : Fr F W W3 := f2.trans ⟨fr3.os, fr3.tape, fr3.output, fr3.size, fun k hk hT => fr3.block k hk (fun e => hT (by rw [e]; exact hC.fb 5 (by omega)))⟩
  have s3 : stA W3 b lg un := (b3 _ hlt (by omega)).trans s1
  obtain ⟨es4, cl4, hm4⟩ := hC.m5.isMap
  have hrow3 : W3.ownsRow 0 1 1 un xs.length xs := by
    rw [hxl.out]
    refine ownsRow_same hrow fun k hk => b3 k (hfl k (hunF k hk)) ?_
    obtain ⟨cs, h3⟩ := row_block hrow hk
    exact map_ne h3 hm4
  have hC3 : CRep W3 (fun k => F k ∨ (W.heap.size ≤ k ∧ k < W3.heap.size)) b (N + 1) L (.cell (a, k) :: R) un := by
    have hj := fun j (h1 : j ≤ 6) (h2 : j ≠ 5) => b3 (b + j) (by omega) (by omega)
    refine ⟨fun k hk => ?_, fun j hj => .inl (hC.fb j hj), ⟨lg, s3, ownsRow_same hrl fun k hk => ?_, fun k hk => .inl (hlgF k hk)⟩, (hC.m0.at_block (hj 0 (by omega) (by omega))).mono (by omega), (hC.m1.at_block (hj 1 (by omega) (by omega))).mono (by omega), (hC.m2.at_block (hj 2 (by omega) (by omega))).mono (by omega), (hC.m3.at_block (hj 3 (by omega) (by omega))).mono (by omega), (hC.m4.at_block (hj 4 (by omega) (by omega))).mono (by omega), ?_⟩
    · rcases hk with hk | hk
      · have := hfl k hk
        omega
      · exact hk.2
    · obtain ⟨cs, h3⟩ := row_block hrl hk
      exact b3 k (hfl k (hlgF k hk)) (map_ne h3 hm4)
    · refine n4.ext fun c _ => ?_
      show _ = if ceF (.cell (a, k) :: R) c then some (Value.bool true) else none
      by_cases e : c = (a, k)
      · simp [ceF, e]
      · simp [ceF, e]
  have hx3 : unL W3 (fun k => F k ∨ (W.heap.size ≤ k ∧ k < W3.heap.size)) b R xs := hxs.stays (fun q cs t ht hq he => (b3 q (hfl q hq) (map_ne he hm4)).trans he) fun k hk => .inl hk
  have hv3 : unAt W3 (fun k => F k ∨ (W.heap.size ≤ k ∧ k < W3.heap.size)) b R (.cell (a, k)) (.func (.func 42) #[] #[.pointer (some ⟨W.heap.size, 0, none⟩), .pointer (some ⟨W.heap.size + 1 + 1, 0, none⟩)]) :=
    ⟨W.heap.size, W.heap.size + 1 + 1, rfl, ⟨.inr ⟨by omega, by omega⟩, k2⟩, ⟨.inr ⟨by omega, by omega⟩, k3⟩⟩
  have hT2 : ¬ (un.ownBlock = some W.heap.size ∨ W.heap.size = b + 6) := fun h => by
    rcases h with h | h
    · have := hfl _ (hunF _ h)
      omega
    · omega
  have hT3 : ¬ (un.ownBlock = some (W.heap.size + 1 + 1) ∨ W.heap.size + 1 + 1 = b + 6) := fun h => by
    rcases h with h | h
    · have := hfl _ (hunF _ h)
      omega
    · omega
  have hCb := hC.fb 6 (by omega)
  clear m5 n4 d4 d7 hC hxs hrow b2 f2 hrl hw
  go_wp2
  refine wp_flowU (fun k => ([0, 0, 0, 0, 0, 1, 2, 2, 1, 1, 4] : List Nat).getD k 1) (puR W3 b lg un xs (.func (.func 42) #[] #[.pointer (some ⟨W.heap.size, 0, none⟩), .pointer (some ⟨W.heap.size + 1 + 1, 0, none⟩)])) (fun s => s.st ≤ 2) (⟨0, 0, undef⟩) (⟨Fr.drew (Fr.refl _ _), s3, fun _ => hrow3, fun h => (by cases h), fun h => (by simp at h)⟩) (by decide) (by kernel_rfl) (by kernel_rfl) ?_
  iterate 5 ((refine flowU_lateE rfl rfl (fun K hK => ?_); apply Exists.intro; apply And.intro; (focus (intro s0 w' hC hR; have hq := hR.st; rw [if_pos (by first | exact hC | simp)] at hq; obtain ⟨_, _, _, _, _, _, _, e7, _⟩ := hq.cells; have y2 := hR.fr.cell x2 hT2 (by omega); have y30 := hR.fr.cell x30 hT3 (by omega); have y31 := hR.fr.cell x31 hT3 (by omega); have y32 := hR.fr.cell x32 hT3 (by omega); have y33 := hR.fr.cell x33 hT3 (by omega); have y34 := hR.fr.cell x34 hT3 (by omega); clear hq hR; go_simp; (try go_bits); exact rfl)); go_simp; (try go_bits); refine hK _ ?_; clear hK K))
  (refine flowU_readE rfl rfl (fun K hK => ?_); apply Exists.intro; apply And.intro; (focus (intro w' hR; have hq := hR.st; rw [if_pos (by first | exact hC | simp)] at hq; obtain ⟨_, _, _, _, _, _, _, e7, _⟩ := hq.cells; have y2 := hR.fr.cell x2 hT2 (by omega); have y30 := hR.fr.cell x30 hT3 (by omega); have y31 := hR.fr.cell x31 hT3 (by omega); have y32 := hR.fr.cell x32 hT3 (by omega); have y33 := hR.fr.cell x33 hT3 (by omega); have y34 := hR.fr.cell x34 hT3 (by omega); clear hq hR; go_simp; (try go_bits); exact rfl)); go_simp; (try go_bits); refine hK _ ?_; clear hK K)
  refine flowU_step puPB (by decide) rfl ⟨.slice (some ⟨0, 0, none⟩) 1 1, _, 0, rfl, rfl⟩ (fun w' hR => ?_) (fun _ _ v s2 h => (by obtain ⟨g, _, rfl⟩ := h; exact (by decide : (1 : Nat) ≤ 2))) (fun K hK v s2 hs2 => ?_)
  focus
    have hst' := hR.st
    have hlt' := (Array.getElem?_eq_some_iff.1 (show w'.heap[b + 6]? = _ from hst')).1
    have hfr := hR.fr
    have hro := hR.row (Nat.zero_le _)
    clear hR
    go_simp
    exact ⟨⟨1, w'.heap.size, undef⟩, ⟨_, rfl, rfl⟩, hfr.alloc _, (Below.heap_alloc _ _ _ hlt').trans hst', fun _ => hro.alloc _, fun _ => ⟨hfr.size, heap_new rfl⟩, fun h => (by simp at h)⟩
  obtain ⟨g, rfl, rfl⟩ := hs2
  (go_simp; refine hK _ _ ?_; clear hK K)
  refine flowU_step (puPA (xs.length + 1) g) (by decide) rfl ⟨_, _, 0, 0, rfl, rfl⟩ (fun w' hR => ?_) (fun _ _ v s2 h => (by obtain ⟨_, _, _, rfl⟩ := h; exact (by decide : (2 : Nat) ≤ 2))) (fun K hK v s2 hs2 => ?_)
  focus
    have hst' := hR.st
    have hlt' := (Array.getElem?_eq_some_iff.1 (show w'.heap[b + 6]? = _ from hst')).1
    obtain ⟨hg1, hg2⟩ := hR.one rfl
    have hro := hR.row (Nat.le_refl _)
    have hfr := hR.fr
    clear hR
    have hgc : w'.cell? ⟨g, 0, none⟩ = some (.func (.func 42) #[] #[.pointer (some ⟨W.heap.size, 0, none⟩), .pointer (some ⟨W.heap.size + 1 + 1, 0, none⟩)]) := by
      have hg3 : w'.heap[g]? = _ := hg2
      simp [World.cell?, hg3]
    obtain ⟨v', w2, hr, hown', hgrow, _, hloc⟩ := run_append_own_at (P := Tryd.prog) w' 0 71 71 1 i0 .nilFunc 1 8 Tryd.underlying71 hi hz0 hz1 hz2 rfl (by decide) un xs.length xs hro ⟨g, 0, none⟩ 1 1 [.func (.func 42) #[] #[.pointer (some ⟨W.heap.size, 0, none⟩), .pointer (some ⟨W.heap.size + 1 + 1, 0, none⟩)]] rfl
      (fun j u hj => by
        cases j with
        | zero => simp at hj; subst hj; simpa [Addr.add] using hgc
        | succ j => simp at hj) (by simp [Value.oneCell']) (by unfold maxLen; omega) (by omega) (Nat.zero_le _)
    rw [append_exec (P := Tryd.prog) rfl rfl rfl hr]
    have hne : un.ownBlock ≠ some (b + 6) := fun e => by
      obtain ⟨cs, h3⟩ := row_block hro e
      have h6 : w'.heap[b + 6]? = _ := hst'
      rw [h3] at h6
      injection h6 with h6
      injection h6 with _ h6
      exact absurd h6 (by decide)
    obtain ⟨q, cap, rfl⟩ : ∃ q cap, v' = .slice (some ⟨q, 0, none⟩) (xs.length + 1) cap := by
      rcases hown'.2 with ⟨_, h0⟩ | ⟨q, cap, cur, h0, _⟩
      · simp at h0
      · exact ⟨q, cap, h0⟩
    refine ⟨⟨2, g, _⟩, ⟨q, cap, rfl, rfl⟩, hfr.trans ⟨hgrow.os, hgrow.tape, hgrow.output, hgrow.size, fun k hk hT => hgrow.block k hk fun e => hT (.inl e.symm)⟩, (hgrow.block _ hlt' (fun e => hne e.symm)).trans hst', fun h => (by simp at h), fun h => (by cases h), fun _ => ⟨hown', ?_⟩⟩
    rcases hloc with h | h
    · exact .inl h
    · exact .inr ⟨_, h, hfr.size⟩
  obtain ⟨q, cap, rfl, rfl⟩ := hs2
  (go_simp; refine hK _ _ ?_; clear hK K)
  iterate 2 ((refine flowU_readE rfl rfl (fun K hK => ?_); apply Exists.intro; apply And.intro; (focus (intro w' hR; have hq := hR.st; rw [if_pos (by first | exact hC | simp)] at hq; obtain ⟨_, _, _, _, _, _, _, e7, _⟩ := hq.cells; have y2 := hR.fr.cell x2 hT2 (by omega); have y30 := hR.fr.cell x30 hT3 (by omega); have y31 := hR.fr.cell x31 hT3 (by omega); have y32 := hR.fr.cell x32 hT3 (by omega); have y33 := hR.fr.cell x33 hT3 (by omega); have y34 := hR.fr.cell x34 hT3 (by omega); clear hq hR; go_simp; (try go_bits); exact rfl)); go_simp; (try go_bits); refine hK _ ?_; clear hK K))
  refine flowU_step (puPC g (Value.slice (some ⟨q, 0, none⟩) (xs.length + 1) cap)) (by decide) rfl ⟨undef, _, rfl, rfl⟩ (fun w' hR => ?_) (fun h => absurd rfl h) (fun K hK v s2 hs2 => ?_)
  focus
    have hst' := hR.st
    rw [if_pos (by simp)] at hst'
    have hlt' := (Array.getElem?_eq_some_iff.1 (show w'.heap[b + 6]? = _ from hst')).1
    obtain ⟨_, _, _, _, _, _, _, d7, ff⟩ := hst'.cells
    have f7 := ff 7
    obtain ⟨n1, n2⟩ := hR.new (Nat.le_refl _)
    have hfr := hR.fr
    clear hR ff
    dsimp only at n1 n2
    have hne : ((Value.slice (some ⟨q, 0, none⟩) (xs.length + 1) cap)).ownBlock ≠ some (b + 6) := fun e => by
      obtain ⟨cs, h3⟩ := row_block n1 e
      have h6 : w'.heap[b + 6]? = _ := hst'
      rw [h3] at h6
      injection h6 with h6
      injection h6 with _ h6
      exact absurd h6 (by decide)
    go_simp
    exact ⟨⟨3, g, (Value.slice (some ⟨q, 0, none⟩) (xs.length + 1) cap)⟩, ⟨rfl, rfl⟩, hfr.setCell (.inl (.inr rfl)) _, hst'.set _, fun h => (by simp at h), fun h => (by simp at h), fun _ => ⟨ownsRow_same n1 fun k hk => heap_set_ne (fun e => hne (e ▸ hk)), n2⟩⟩
  obtain ⟨rfl, rfl⟩ := hs2
  (go_simp; refine hK _ _ ?_; clear hK K)
  refine flowU_nil ?_
  intro W4 hR4
  have fr4 := hR4.fr
  have st4 := hR4.st
  rw [if_neg (by simp)] at st4
  dsimp only at st4
  obtain ⟨ro4, at4⟩ := hR4.new (by simp)
  clear hR4
  have sz4 := fr4.size
  have f4 : Fr F W W4 := f3.trans ⟨fr4.os, fr4.tape, fr4.output, fr4.size, fun k hk hT => fr4.block k hk (fun e => hT (by
    rcases e with e | e
    · exact hunF k e
    · rw [e]; exact hCb))⟩
  have fin := push_done (F' := fun k => F k ∨ (W.heap.size ≤ k ∧ k < W4.heap.size)) hC3 s3 hrow3 (fun k hk => .inl (hunF k hk)) hx3 hv3 fr4 st4 ro4 at4 (fun k hk => by
    rcases hk with hk | hk
    · exact .inl hk
    · exact .inr ⟨hk.1, Nat.lt_of_lt_of_le hk.2 sz4⟩) (fun k h1 h2 => .inr ⟨by omega, h2⟩) (fun k hk => by
    rcases hk with hk | hk
    · have := hfl k hk
      omega
    · exact hk.2)
  clear hC3 hrow3 hx3 hv3 ro4 st4 at4 fr4
  go_wp2
  go_ret
  exact ⟨rfl, _, fin, f4, fun k hk => .inl hk, fun k hk => hk.imp id (fun h => h.1)⟩
end
end Go.Proofs.YtcdjdnbdblpofaaDoor

/- set, in terms of what a map says by its keys. Conditions: none. -/
namespace Go.Proofs.YtcdjdnbdblpofaaDoor
open Go.RowKit Go.Maps
attribute [local go_sem] leftBy leaves
set_option linter.unusedSimpArgs false
set_option linter.unusedVariables false

/-- What set leaves: the map, and its boxes from q on. -/
structure setQ (W : World) (mb N : Nat) (p : ByteArray × Nat) (g : ByteArray × Nat → Option Nat) (v : Nat) (q : Nat) (w' : World) : Prop where
  fr : Fr (fun k => k = mb) W w'
  map : MV w' 83 spW okP mb (N + 1) (W4 0) (fun j => if j = p then some (W4 v) else (g j).map W4)
  q0 : W.heap.size ≤ q
  bm : w'.heap[q]? = some (.cells #[.map (some mb)] 68 (0, 0))
  bs : w'.heap[q + 1]? = some (.cells (spW p).cells 83 (0, 0))
  bw : w'.heap[q + 3]? = some (.cells (W4 ((g p).getD 0)).cells 25 (0, 0))
  bh : w'.heap[q + 4]? = some (.cells #[.bool (g p).isSome] 4 (0, 0))

theorem set_mv {W : World} {mb N : Nat} {g : ByteArray × Nat → Option Nat} (hm : MV W 83 spW okP mb N (W4 0) (fun j => (g j).map W4)) (hN : N ≤ 1000000) (p : ByteArray × Nat) (hp : okP p) (v : Nat) :
    Calls Tryd.prog 40 #[.map (some mb), spW p, W4 v] W fun e w' => ∃ q, e = .returned (cloV q) ∧ setQ W mb N p g v q w' := by
  obtain ⟨D, h1, h2⟩ := hm
  obtain ⟨kl, hk⟩ := keyP.some p hp
  obtain ⟨h3, h4⟩ := h2 p kl hp hk
  dsimp only at h3 h4
  have h4' : D.atKey kl (.held (.agg #[.int .u64 0, .int .u64 0, .int .u64 0, .int .u64 0])) = .held (W4 ((g p).getD 0)) := by
    rw [← W4_zero, h4]
    cases g p <;> rfl
  refine (set_any h1 (by omega) p.1 _ _ _ _ (lb v 0 : Nat) (lb v 1 : Nat) (lb v 2 : Nat) (lb v 3 : Nat) _ _ _ _ hk h4').mono ?_
  rintro e w' ⟨rfl, ho, hg, b0, b1, b3, b4⟩
  refine ⟨W.heap.size, rfl, ⟨hg.os, hg.tape, hg.output, hg.size, fun k hk hT => hg.block k hk (by simpa using hT)⟩, ⟨_, ho, fun j kj hj hkj => ?_⟩, Nat.le_refl _, b0, b1, b3, ?_⟩
  · by_cases e : j = p
    · subst e
      obtain rfl := Option.some.inj (hk.symm.trans hkj)
      dsimp only
      rw [if_pos rfl]
      exact ⟨has_put_same h1.isMap (lawSpot.key hk) _, atKey_put_same h1.isMap (lawSpot.key hk) _ _⟩
    · have hne : kj ≠ kl := fun e' => e (keyP.inj _ _ hj hp (lawSpot.inj (e' ▸ hkj) hk))
      dsimp only
      rw [if_neg e, has_put_other hne, atKey_put_other hne]
      exact h2 j kj hj hkj
  · rw [b4, h3]
    cases g p <;> rfl

/-- Where a region that saves stands: nothing done yet; or set has been called. -/
def saR (W1 : World) (b mb N : Nat) (p : ByteArray × Nat) (g : ByteArray × Nat → Option Nat) (v : Nat) (lg un : Value) (xs : List Value) (s : Option (Nat × PuS)) (w' : World) : Prop :=
  match s with
  | none => Fr (fun _ => False) W1 w'
  | some (q, ps) => ∃ wm, setQ W1 mb N p g v q wm ∧ stA wm b lg un ∧ wm.ownsRow 0 1 1 un xs.length xs ∧ puR wm b lg un xs (cloV q) ps w'
def saC (s : Option (Nat × PuS)) : Prop := match s with | none => True | some (_, ps) => ps.st ≤ 2
theorem saR_late {W1 : World} {b mb N : Nat} {p : ByteArray × Nat} {g : ByteArray × Nat → Option Nat} {v : Nat} {lg un : Value} {xs : List Value} {s : Option (Nat × PuS)} {w' : World} (hC : saC s) (hR : saR W1 b mb N p g v lg un xs s w') (h1 : stA W1 b lg un) : w'.cell? ⟨b + 6, 7, none⟩ = some un := by
  cases s with
  | none =>
    obtain ⟨_, _, _, _, _, _, _, d7, _⟩ := h1.cells
    have hR : Fr (fun _ => False) W1 w' := hR
    exact hR.cell d7 id h1.lt
  | some qs =>
    obtain ⟨q, ps⟩ := qs
    have hC : ps.st ≤ 2 := hC
    obtain ⟨wm, _, _, _, hq⟩ := hR
    have h2 := hq.st
    rw [if_pos hC] at h2
    obtain ⟨_, _, _, _, _, _, _, d7, _⟩ := h2.cells
    exact d7
end Go.Proofs.YtcdjdnbdblpofaaDoor

/- Save and SaveBrief: their contracts. Conditions: the state is one; what is known is right. -/
namespace Go.Proofs.YtcdjdnbdblpofaaDoor
open Go.RowKit Go.Maps
attribute [local go_sem] leftBy leaves
set_option linter.unusedSimpArgs false
set_option linter.unusedVariables false

def saPB (qs : Nat) (v : Value) (s : Option (Nat × PuS)) : Prop := ∃ g, v = .slice (some ⟨g, 0, none⟩) 1 1 ∧ s = some (qs, ⟨1, g, undef⟩)
def saPA (qs n g : Nat) (v : Value) (s : Option (Nat × PuS)) : Prop := ∃ q cap, v = .slice (some ⟨q, 0, none⟩) n cap ∧ s = some (qs, ⟨2, g, .slice (some ⟨q, 0, none⟩) n cap⟩)
def saPC (qs g : Nat) (u : Value) (v : Value) (s : Option (Nat × PuS)) : Prop := v = undef ∧ s = some (qs, ⟨3, g, u⟩)
theorem setQ.back {W1 w w' : World} {mb N : Nat} {p : ByteArray × Nat} {g : ByteArray × Nat → Option Nat} {v q : Nat} (hR : Fr (fun _ => False) W1 w) (h : setQ w mb N p g v q w') : setQ W1 mb N p g v q w' :=
  ⟨(hR.mono fun _ h => h.elim).trans ⟨h.fr.os, h.fr.tape, h.fr.output, h.fr.size, h.fr.block⟩, h.map, Nat.le_trans hR.size h.q0, h.bm, h.bs, h.bw, h.bh⟩


section
variable {W : World} {F : Nat → Prop} {b N : Nat} {L : List Kw} {R : List Chg}

set_option maxRecDepth 100000 in
set_option maxHeartbeats 16000000 in
theorem SaveBrief_S (h : SRep W F b N L R) {a : ByteArray} {k : Nat} (hp : okP (a, k)) (v : Nat) (hRl : R.length ≤ 1000000) (hN : N ≤ 1000000) :
    Calls Tryd.prog 22 #[ptr (b + 6), .string a, W4 k, W4 v] W (muPost W F b (N + 1) L (.brief (a, k) v :: R) (.int .i64 0)) := by
  have hfl := h.flt
  obtain ⟨un, hC, xs, hrow, hunF, hxs⟩ := h
  obtain ⟨lg, s1, hrl, hlgF⟩ := hC.st
  obtain ⟨i0, hi, hz0, hz1, hz2⟩ := info_parts infoF
  have hxl := Lib.hid hxs.length
  have hxl2 : xs.length ≤ 1000000 := by rw [hxl.out]; exact hRl
  have hlt := s1.lt
  have b1 : Below W.heap.size W ((W.alloc (.cells #[.int .u64 (lb k 0 : Nat), .int .u64 (lb k 1 : Nat), .int .u64 (lb k 2 : Nat), .int .u64 (lb k 3 : Nat)] 25)).alloc (.cells #[.int .u64 (lb v 0 : Nat), .int .u64 (lb v 1 : Nat), .int .u64 (lb v 2 : Nat), .int .u64 (lb v 3 : Nat)] 25)) := ((Below.refl _ W).alloc (Nat.le_refl _) _).alloc (by simp) _
  have k0 : ((W.alloc (.cells #[.int .u64 (lb k 0 : Nat), .int .u64 (lb k 1 : Nat), .int .u64 (lb k 2 : Nat), .int .u64 (lb k 3 : Nat)] 25)).alloc (.cells #[.int .u64 (lb v 0 : Nat), .int .u64 (lb v 1 : Nat), .int .u64 (lb v 2 : Nat), .int .u64 (lb v 3 : Nat)] 25)).heap[W.heap.size]? = some (.cells #[.int .u64 (lb k 0 : Nat), .int .u64 (lb k 1 : Nat), .int .u64 (lb k 2 : Nat), .int .u64 (lb k 3 : Nat)] 25 (0, 0)) := (Below.heap_alloc _ _ _ (by simp)).trans (heap_new rfl)
  have k1 : ((W.alloc (.cells #[.int .u64 (lb k 0 : Nat), .int .u64 (lb k 1 : Nat), .int .u64 (lb k 2 : Nat), .int .u64 (lb k 3 : Nat)] 25)).alloc (.cells #[.int .u64 (lb v 0 : Nat), .int .u64 (lb v 1 : Nat), .int .u64 (lb v 2 : Nat), .int .u64 (lb v 3 : Nat)] 25)).heap[W.heap.size + 1]? = some (.cells #[.int .u64 (lb v 0 : Nat), .int .u64 (lb v 1 : Nat), .int .u64 (lb v 2 : Nat), .int .u64 (lb v 3 : Nat)] 25 (0, 0)) := heap_new (by simp)
  have z1 : W.heap.size + 2 ≤ ((W.alloc (.cells #[.int .u64 (lb k 0 : Nat), .int .u64 (lb k 1 : Nat), .int .u64 (lb k 2 : Nat), .int .u64 (lb k 3 : Nat)] 25)).alloc (.cells #[.int .u64 (lb v 0 : Nat), .int .u64 (lb v 1 : Nat), .int .u64 (lb v 2 : Nat), .int .u64 (lb v 3 : Nat)] 25)).heap.size := by simp
  unfold ptr
  go_enter Tryd.func22, Tryd.ntmps22
  go_wp2
  generalize (W.alloc (.cells #[.int .u64 (lb k 0 : Nat), .int .u64 (lb k 1 : Nat), .int .u64 (lb k 2 : Nat), .int .u64 (lb k 3 : Nat)] 25)).alloc (.cells #[.int .u64 (lb v 0 : Nat), .int .u64 (lb v 1 : Nat), .int .u64 (lb v 2 : Nat), .int .u64 (lb v 3 : Nat)] 25) = W1 at *
  have s1' : stA W1 b lg un := (b1.block _ hlt).trans s1
  obtain ⟨es4, cl4, hm4⟩ := hC.m3.isMap
  have m0 := hC.m3.at_block (b1.block _ (by omega))
  have hs1 := Lib.hid fun (w2 : World) (hf : Fr (fun j => j = b + 3) W1 w2) => show stA w2 b lg un from (hf.block _ (by omega) (by omega)).trans s1'
  have hr1 := Lib.hid fun (w2 : World) (hf : Fr (fun j => j = b + 3) W1 w2) => show w2.ownsRow 0 1 1 un xs.length xs by
    rw [hxl.out]
    refine ownsRow_same hrow fun k hk => ?_
    obtain ⟨cs, h3⟩ := row_block hrow hk
    have := hfl k (hunF k hk)
    exact (hf.block k (by omega) (map_ne h3 hm4)).trans (b1.block k this)
  obtain ⟨x0, x1, x2, x3⟩ := cells4w k0
  obtain ⟨y0, y1, y2, y3⟩ := cells4w k1
  obtain ⟨_, _, e2, e3, _⟩ := s1'.cells
  refine wp_flowU (fun k => ([0, 0, 0, 0, 0, 1, 1, 1, 1, 1, 1, 1, 1, 2, 2, 2, 1, 1, 4] : List Nat).getD k 1) (saR W1 b (b + 3) N (a, k) (brF R) v lg un xs) (saC) (none) (Fr.drew (Fr.refl _ _)) trivial (by kernel_rfl) (by kernel_rfl) ?_
  iterate 5 ((refine flowU_lateE rfl rfl (fun K hK => ?_); apply Exists.intro; apply And.intro; (focus (intro s0 w' hC hR; (first | (have hz := saR_late hC hR s1') | (have hR2 : Fr (fun _ => False) W1 w' := hR; have u0 := hR2.cell x0 id (by omega); have u1 := hR2.cell x1 id (by omega); have u2 := hR2.cell x2 id (by omega); have u3 := hR2.cell x3 id (by omega); have t0 := hR2.cell y0 id (by omega); have t1 := hR2.cell y1 id (by omega); have t2 := hR2.cell y2 id (by omega); have t3 := hR2.cell y3 id (by omega); have z2 := hR2.cell e2 id (by omega); have z3 := hR2.cell e3 id (by omega); clear hR2) | skip); clear hR; go_simp; (try go_bits); exact rfl)); go_simp; (try go_bits); refine hK _ ?_; clear hK K))
  iterate 8 ((refine flowU_readE rfl rfl (fun K hK => ?_); apply Exists.intro; apply And.intro; (focus (intro w' hR; (first | (have hz := saR_late hC hR s1') | (have hR2 : Fr (fun _ => False) W1 w' := hR; have u0 := hR2.cell x0 id (by omega); have u1 := hR2.cell x1 id (by omega); have u2 := hR2.cell x2 id (by omega); have u3 := hR2.cell x3 id (by omega); have t0 := hR2.cell y0 id (by omega); have t1 := hR2.cell y1 id (by omega); have t2 := hR2.cell y2 id (by omega); have t3 := hR2.cell y3 id (by omega); have z2 := hR2.cell e2 id (by omega); have z3 := hR2.cell e3 id (by omega); clear hR2) | skip); clear hR; go_simp; (try go_bits); exact rfl)); go_simp; (try go_bits); refine hK _ ?_; clear hK K))
  refine flowU_step (fun v s => ∃ q, v = cloV q ∧ s = some (q, ⟨0, 0, undef⟩)) (by decide) rfl ⟨cloV 0, _, 0, rfl, rfl⟩ (fun w' hR => ?_) (fun _ _ v s2 h => (by obtain ⟨q, _, rfl⟩ := h; exact Nat.zero_le _)) (fun K hK v s2 hs2 => ?_)
  focus
    have hR : Fr (fun _ => False) W1 w' := hR
    have cS := set_mv (m0.at_block (hR.block _ (by omega) id)) hN (a, k) hp v
    unfold spW spV at cS
    dsimp only at cS
    go_simp
    refine cS.mono ?_
    rintro e w2 ⟨q, rfl, hq⟩
    have hQ := hq.back hR
    have hst2 := hs1.out w2 hQ.fr
    have hro2 := hr1.out w2 hQ.fr
    exact ⟨_, rfl, some (q, ⟨0, 0, undef⟩), ⟨q, rfl, rfl⟩, w2, hQ, hst2, hro2, Fr.refl _ _, hst2, fun _ => hro2, fun h => (by cases h), fun h => (by simp at h)⟩
  obtain ⟨qs, rfl, rfl⟩ := hs2
  (go_simp; refine hK _ _ ?_; clear hK K)
  refine flowU_step (saPB qs) (by decide) rfl ⟨.slice (some ⟨0, 0, none⟩) 1 1, _, 0, rfl, rfl⟩ (fun w' hR => ?_) (fun _ _ v s2 h => (by obtain ⟨g, _, rfl⟩ := h; exact (by decide : (1 : Nat) ≤ 2))) (fun K hK v s2 hs2 => ?_)
  focus
    obtain ⟨wm, hQ, hs0, hro0, hR⟩ := hR
    have hst' := hR.st
    have hlt' := (Array.getElem?_eq_some_iff.1 (show w'.heap[b + 6]? = _ from hst')).1
    have hfr := hR.fr
    have hro := hR.row (Nat.zero_le _)
    clear hR
    go_simp
    exact ⟨some (qs, ⟨1, w'.heap.size, undef⟩), ⟨_, rfl, rfl⟩, wm, hQ, hs0, hro0, hfr.alloc _, (Below.heap_alloc _ _ _ hlt').trans hst', fun _ => hro.alloc _, fun _ => ⟨hfr.size, heap_new rfl⟩, fun h => (by simp at h)⟩
  obtain ⟨g, rfl, rfl⟩ := hs2
  (go_simp; refine hK _ _ ?_; clear hK K)
  refine flowU_step (saPA qs (xs.length + 1) g) (by decide) rfl ⟨_, _, 0, 0, rfl, rfl⟩ (fun w' hR => ?_) (fun _ _ v s2 h => (by obtain ⟨_, _, _, rfl⟩ := h; exact (by decide : (2 : Nat) ≤ 2))) (fun K hK v s2 hs2 => ?_)
  focus
    obtain ⟨wm, hQ, hs0, hro0, hR⟩ := hR
    have hst' := hR.st
    have hlt' := (Array.getElem?_eq_some_iff.1 (show w'.heap[b + 6]? = _ from hst')).1
    obtain ⟨hg1, hg2⟩ := hR.one rfl
    have hro := hR.row (Nat.le_refl _)
    have hfr := hR.fr
    clear hR
    have hgc : w'.cell? ⟨g, 0, none⟩ = some (cloV qs) := by
      have hg3 : w'.heap[g]? = _ := hg2
      simp [World.cell?, hg3]
    obtain ⟨v', w2, hr, hown', hgrow, _, hloc⟩ := run_append_own_at (P := Tryd.prog) w' 0 71 71 1 i0 .nilFunc 1 8 Tryd.underlying71 hi hz0 hz1 hz2 rfl (by decide) un xs.length xs hro ⟨g, 0, none⟩ 1 1 [cloV qs] rfl
      (fun j u hj => by
        cases j with
        | zero => simp at hj; subst hj; simpa [Addr.add] using hgc
        | succ j => simp at hj) (by simp [Value.oneCell', cloV]) (by unfold maxLen; omega) (by omega) (Nat.zero_le _)
    rw [append_exec (P := Tryd.prog) rfl rfl rfl hr]
    have hne : un.ownBlock ≠ some (b + 6) := fun e => by
      obtain ⟨cs, h3⟩ := row_block hro e
      have h6 : w'.heap[b + 6]? = _ := hst'
      rw [h3] at h6
      injection h6 with h6
      injection h6 with _ h6
      exact absurd h6 (by decide)
    obtain ⟨q, cap, rfl⟩ : ∃ q cap, v' = .slice (some ⟨q, 0, none⟩) (xs.length + 1) cap := by
      rcases hown'.2 with ⟨_, h0⟩ | ⟨q, cap, cur, h0, _⟩
      · simp at h0
      · exact ⟨q, cap, h0⟩
    refine ⟨some (qs, ⟨2, g, _⟩), ⟨q, cap, rfl, rfl⟩, wm, hQ, hs0, hro0, hfr.trans ⟨hgrow.os, hgrow.tape, hgrow.output, hgrow.size, fun k hk hT => hgrow.block k hk fun e => hT (.inl e.symm)⟩, (hgrow.block _ hlt' (fun e => hne e.symm)).trans hst', fun h => (by simp at h), fun h => (by cases h), fun _ => ⟨hown', ?_⟩⟩
    rcases hloc with h | h
    · exact .inl h
    · exact .inr ⟨_, h, hfr.size⟩
  obtain ⟨q, cap, rfl, rfl⟩ := hs2
  (go_simp; refine hK _ _ ?_; clear hK K)
  iterate 2 ((refine flowU_readE rfl rfl (fun K hK => ?_); apply Exists.intro; apply And.intro; (focus (intro w' hR; (first | (have hz := saR_late hC hR s1') | (have hR2 : Fr (fun _ => False) W1 w' := hR; have u0 := hR2.cell x0 id (by omega); have u1 := hR2.cell x1 id (by omega); have u2 := hR2.cell x2 id (by omega); have u3 := hR2.cell x3 id (by omega); have t0 := hR2.cell y0 id (by omega); have t1 := hR2.cell y1 id (by omega); have t2 := hR2.cell y2 id (by omega); have t3 := hR2.cell y3 id (by omega); have z2 := hR2.cell e2 id (by omega); have z3 := hR2.cell e3 id (by omega); clear hR2) | skip); clear hR; go_simp; (try go_bits); exact rfl)); go_simp; (try go_bits); refine hK _ ?_; clear hK K))
  refine flowU_step (saPC qs g (Value.slice (some ⟨q, 0, none⟩) (xs.length + 1) cap)) (by decide) rfl ⟨undef, _, rfl, rfl⟩ (fun w' hR => ?_) (fun h => absurd rfl h) (fun K hK v s2 hs2 => ?_)
  focus
    obtain ⟨wm, hQ, hs0, hro0, hR⟩ := hR
    have hst' := hR.st
    rw [if_pos (by simp)] at hst'
    have hlt' := (Array.getElem?_eq_some_iff.1 (show w'.heap[b + 6]? = _ from hst')).1
    obtain ⟨_, _, _, _, _, _, _, d7, ff⟩ := hst'.cells
    have f7 := ff 7
    obtain ⟨n1, n2⟩ := hR.new (Nat.le_refl _)
    have hfr := hR.fr
    clear hR ff
    dsimp only at n1 n2
    have hne : ((Value.slice (some ⟨q, 0, none⟩) (xs.length + 1) cap)).ownBlock ≠ some (b + 6) := fun e => by
      obtain ⟨cs, h3⟩ := row_block n1 e
      have h6 : w'.heap[b + 6]? = _ := hst'
      rw [h3] at h6
      injection h6 with h6
      injection h6 with _ h6
      exact absurd h6 (by decide)
    go_simp
    exact ⟨some (qs, ⟨3, g, (Value.slice (some ⟨q, 0, none⟩) (xs.length + 1) cap)⟩), ⟨rfl, rfl⟩, wm, hQ, hs0, hro0, hfr.setCell (.inl (.inr rfl)) _, hst'.set _, fun h => (by simp at h), fun h => (by simp at h), fun _ => ⟨ownsRow_same n1 fun k hk => heap_set_ne (fun e => hne (e ▸ hk)), n2⟩⟩
  obtain ⟨rfl, rfl⟩ := hs2
  (go_simp; refine hK _ _ ?_; clear hK K)
  refine flowU_nil ?_
  intro X4 hR4
  obtain ⟨wm, hQ, s3, hrow3, hR4⟩ := hR4
  have szm := hQ.fr.size
  have bm : ∀ k, k < W.heap.size → k ≠ b + 3 → wm.heap[k]? = W.heap[k]? := fun k hk hn => (hQ.fr.block k (by omega) hn).trans (b1.block k hk)
  have f3 : Fr F W wm := ((Fr.refl _ W).below b1).trans ⟨hQ.fr.os, hQ.fr.tape, hQ.fr.output, hQ.fr.size, fun k hk hT => hQ.fr.block k hk (fun e => hT (by rw [e]; exact hC.fb 3 (by omega)))⟩
  have hC3 : CRep wm (fun k => F k ∨ (W.heap.size ≤ k ∧ k < wm.heap.size)) b (N + 1) L (.brief (a, k) v :: R) un := by
    have hj := fun j (h1 : j ≤ 6) (h2 : j ≠ 3) => bm (b + j) (by omega) (by omega)
    refine ⟨fun k hk => ?_, fun j hj => .inl (hC.fb j hj), ⟨lg, s3, ownsRow_same hrl fun k hk => ?_, fun k hk => .inl (hlgF k hk)⟩, (hC.m0.at_block (hj 0 (by omega) (by omega))).mono (by omega), (hC.m1.at_block (hj 1 (by omega) (by omega))).mono (by omega), (hC.m2.at_block (hj 2 (by omega) (by omega))).mono (by omega), ?_, (hC.m4.at_block (hj 4 (by omega) (by omega))).mono (by omega), (hC.m5.at_block (hj 5 (by omega) (by omega))).mono (by omega)⟩
    · rcases hk with hk | hk
      · have := hfl k hk
        omega
      · exact hk.2
    · obtain ⟨cs, h3⟩ := row_block hrl hk
      exact bm k (hfl k (hlgF k hk)) (map_ne h3 hm4)
    · refine hQ.map.ext fun j _ => ?_
      show _ = (brF (.brief (a, k) v :: R) j).map W4
      by_cases e : j = (a, k)
      · simp [brF, e]
      · simp [brF, e]
  have hx3 : unL wm (fun k => F k ∨ (W.heap.size ≤ k ∧ k < wm.heap.size)) b R xs := hxs.stays (fun q cs t ht hq he => (bm q (hfl q hq) (map_ne he hm4)).trans he) fun k hk => .inl hk
  have hqq : qs + 4 < wm.heap.size := (Array.getElem?_eq_some_iff.1 hQ.bh).1
  have hq0 := hQ.q0
  have hv3 : unAt wm (fun k => F k ∨ (W.heap.size ≤ k ∧ k < wm.heap.size)) b R (.brief (a, k) v) (cloV qs) :=
    ⟨qs + 4, qs + 3, qs, qs + 1, rfl, ⟨.inr ⟨by omega, by omega⟩, hQ.bh⟩, ⟨.inr ⟨by omega, by omega⟩, hQ.bw⟩, ⟨.inr ⟨by omega, by omega⟩, hQ.bm⟩, ⟨.inr ⟨by omega, by omega⟩, hQ.bs⟩⟩
  have hCb := hC.fb 6 (by omega)
  clear hC hxs hrow hrl hs1 hr1 hQ bm hm4
  have fr4 := hR4.fr
  have st4 := hR4.st
  rw [if_neg (by simp)] at st4
  dsimp only at st4
  obtain ⟨ro4, at4⟩ := hR4.new (by simp)
  clear hR4
  have sz4 := fr4.size
  have f4 : Fr F W X4 := f3.trans ⟨fr4.os, fr4.tape, fr4.output, fr4.size, fun k hk hT => fr4.block k hk (fun e => hT (by
    rcases e with e | e
    · exact hunF k e
    · rw [e]; exact hCb))⟩
  have fin := push_done (F' := fun k => F k ∨ (W.heap.size ≤ k ∧ k < X4.heap.size)) hC3 s3 hrow3 (fun k hk => .inl (hunF k hk)) hx3 hv3 fr4 st4 ro4 at4 (fun k hk => by
    rcases hk with hk | hk
    · exact .inl hk
    · exact .inr ⟨hk.1, Nat.lt_of_lt_of_le hk.2 sz4⟩) (fun k h1 h2 => .inr ⟨by omega, h2⟩) (fun k hk => by
    rcases hk with hk | hk
    · have := hfl k hk
      omega
    · exact hk.2)
  clear hC3 hrow3 hx3 hv3 ro4 st4 at4 fr4
  go_wp2
  go_ret
  exact ⟨rfl, _, fin, f4, fun k hk => .inl hk, fun k hk => hk.imp id (fun h => h.1)⟩

set_option maxRecDepth 100000 in
set_option maxHeartbeats 16000000 in
theorem Save_ok (h : SRep W F b N L R) (hW : 3 ≤ W.heap.size) (hT : KT W) (hL : ∀ K ∈ L, Kok W K) {a : ByteArray} {k : Nat} (hp : okP (a, k)) (v : Nat) (hRl : R.length ≤ 1000000) (hN : N ≤ 1000000) (hok : (loaN L R a k).2 = 0) :
    Calls Tryd.prog 21 #[ptr (b + 6), .string a, W4 k, W4 v] W (muPost W F b (N + 1) L (.save (a, k) v :: R) (.int .i64 0)) := by
  have hfl := h.flt
  have cL := fun o1 o2 => Load_all (h.below (((Below.refl _ W).alloc (Nat.le_refl _) o1).alloc (by simp) o2)) (by simp; omega) (hT.below (((Below.refl _ W).alloc (Nat.le_refl _) o1).alloc (by simp) o2) hW) (fun K hK => (hL K hK).below (((Below.refl _ W).alloc (Nat.le_refl _) o1).alloc (by simp) o2)) hp
  rw [hok] at cL
  generalize (loaN L R a k).1 = ov at *
  obtain ⟨un, hC, xs, hrow, hunF, hxs⟩ := h
  obtain ⟨lg, s1, hrl, hlgF⟩ := hC.st
  obtain ⟨i0, hi, hz0, hz1, hz2⟩ := info_parts infoF
  have hxl := Lib.hid hxs.length
  have hxl2 : xs.length ≤ 1000000 := by rw [hxl.out]; exact hRl
  have hlt := s1.lt
  unfold ptr at *
  go_enter Tryd.func21, Tryd.ntmps21
  go_wp2_with (go_at_call 14; refine (cL _ _).mono ?_; rintro e wa ⟨rfl, hb_wa⟩; have hc_wa := (bcell hb_wa).1; have hf_wa := (bcell hb_wa).2; have hz_wa : _ ≤ wa.heap.size := hb_wa.size; (try simp only [World.size_alloc, World.heap_drewN, World.size_setCell, heap_drew] at hc_wa hf_wa hz_wa); have hz_wa_W_0 : W.heap.size < wa.heap.size := (by omega); have hz_wa_W_1 : W.heap.size + 1 < wa.heap.size := (by omega))
  have b1 : Below W.heap.size W (wa.alloc (.cells #[.int .u64 (lb ov 0 : Nat), .int .u64 (lb ov 1 : Nat), .int .u64 (lb ov 2 : Nat), .int .u64 (lb ov 3 : Nat)] 25)) := ((((Below.refl _ W).alloc (Nat.le_refl _) _).alloc (by simp) _).trans (hb_wa.mono (by simp; omega))).alloc (by omega) _
  have k0 : (wa.alloc (.cells #[.int .u64 (lb ov 0 : Nat), .int .u64 (lb ov 1 : Nat), .int .u64 (lb ov 2 : Nat), .int .u64 (lb ov 3 : Nat)] 25)).heap[W.heap.size]? = some (.cells #[.int .u64 (lb k 0 : Nat), .int .u64 (lb k 1 : Nat), .int .u64 (lb k 2 : Nat), .int .u64 (lb k 3 : Nat)] 25 (0, 0)) := (Below.heap_alloc _ _ _ (by omega)).trans ((hb_wa.block _ (by simp; try omega)).trans ((Below.heap_alloc _ _ _ (by simp; try omega)).trans (heap_new rfl)))
  have k1 : (wa.alloc (.cells #[.int .u64 (lb ov 0 : Nat), .int .u64 (lb ov 1 : Nat), .int .u64 (lb ov 2 : Nat), .int .u64 (lb ov 3 : Nat)] 25)).heap[W.heap.size + 1]? = some (.cells #[.int .u64 (lb v 0 : Nat), .int .u64 (lb v 1 : Nat), .int .u64 (lb v 2 : Nat), .int .u64 (lb v 3 : Nat)] 25 (0, 0)) := (Below.heap_alloc _ _ _ (by omega)).trans ((hb_wa.block _ (by simp; try omega)).trans (heap_new (by simp)))
  have z1 : W.heap.size + 2 ≤ (wa.alloc (.cells #[.int .u64 (lb ov 0 : Nat), .int .u64 (lb ov 1 : Nat), .int .u64 (lb ov 2 : Nat), .int .u64 (lb ov 3 : Nat)] 25)).heap.size := by simp; omega
  clear hc_wa hf_wa hb_wa hz_wa hz_wa_W_0 hz_wa_W_1 cL
  generalize wa.alloc (.cells #[.int .u64 (lb ov 0 : Nat), .int .u64 (lb ov 1 : Nat), .int .u64 (lb ov 2 : Nat), .int .u64 (lb ov 3 : Nat)] 25) = W1 at *
  have s1' : stA W1 b lg un := (b1.block _ hlt).trans s1
  obtain ⟨es4, cl4, hm4⟩ := hC.m2.isMap
  have m0 := hC.m2.at_block (b1.block _ (by omega))
  have hs1 := Lib.hid fun (w2 : World) (hf : Fr (fun j => j = b + 2) W1 w2) => show stA w2 b lg un from (hf.block _ (by omega) (by omega)).trans s1'
  have hr1 := Lib.hid fun (w2 : World) (hf : Fr (fun j => j = b + 2) W1 w2) => show w2.ownsRow 0 1 1 un xs.length xs by
    rw [hxl.out]
    refine ownsRow_same hrow fun k hk => ?_
    obtain ⟨cs, h3⟩ := row_block hrow hk
    have := hfl k (hunF k hk)
    exact (hf.block k (by omega) (map_ne h3 hm4)).trans (b1.block k this)
  obtain ⟨x0, x1, x2, x3⟩ := cells4w k0
  obtain ⟨y0, y1, y2, y3⟩ := cells4w k1
  obtain ⟨_, _, e2, e3, _⟩ := s1'.cells
  refine wp_flowU (fun k => ([0, 0, 0, 0, 0, 1, 1, 1, 1, 1, 1, 1, 1, 2, 2, 2, 1, 1, 4] : List Nat).getD k 1) (saR W1 b (b + 2) N (a, k) (svF R) v lg un xs) (saC) (none) (Fr.drew (Fr.refl _ _)) trivial (by kernel_rfl) (by kernel_rfl) ?_
  iterate 5 ((refine flowU_lateE rfl rfl (fun K hK => ?_); apply Exists.intro; apply And.intro; (focus (intro s0 w' hC hR; (first | (have hz := saR_late hC hR s1') | (have hR2 : Fr (fun _ => False) W1 w' := hR; have u0 := hR2.cell x0 id (by omega); have u1 := hR2.cell x1 id (by omega); have u2 := hR2.cell x2 id (by omega); have u3 := hR2.cell x3 id (by omega); have t0 := hR2.cell y0 id (by omega); have t1 := hR2.cell y1 id (by omega); have t2 := hR2.cell y2 id (by omega); have t3 := hR2.cell y3 id (by omega); have z2 := hR2.cell e2 id (by omega); have z3 := hR2.cell e3 id (by omega); clear hR2) | skip); clear hR; go_simp; (try go_bits); exact rfl)); go_simp; (try go_bits); refine hK _ ?_; clear hK K))
  iterate 8 ((refine flowU_readE rfl rfl (fun K hK => ?_); apply Exists.intro; apply And.intro; (focus (intro w' hR; (first | (have hz := saR_late hC hR s1') | (have hR2 : Fr (fun _ => False) W1 w' := hR; have u0 := hR2.cell x0 id (by omega); have u1 := hR2.cell x1 id (by omega); have u2 := hR2.cell x2 id (by omega); have u3 := hR2.cell x3 id (by omega); have t0 := hR2.cell y0 id (by omega); have t1 := hR2.cell y1 id (by omega); have t2 := hR2.cell y2 id (by omega); have t3 := hR2.cell y3 id (by omega); have z2 := hR2.cell e2 id (by omega); have z3 := hR2.cell e3 id (by omega); clear hR2) | skip); clear hR; go_simp; (try go_bits); exact rfl)); go_simp; (try go_bits); refine hK _ ?_; clear hK K))
  refine flowU_step (fun v s => ∃ q, v = cloV q ∧ s = some (q, ⟨0, 0, undef⟩)) (by decide) rfl ⟨cloV 0, _, 0, rfl, rfl⟩ (fun w' hR => ?_) (fun _ _ v s2 h => (by obtain ⟨q, _, rfl⟩ := h; exact Nat.zero_le _)) (fun K hK v s2 hs2 => ?_)
  focus
    have hR : Fr (fun _ => False) W1 w' := hR
    have cS := set_mv (m0.at_block (hR.block _ (by omega) id)) hN (a, k) hp v
    unfold spW spV at cS
    dsimp only at cS
    go_simp
    refine cS.mono ?_
    rintro e w2 ⟨q, rfl, hq⟩
    have hQ := hq.back hR
    have hst2 := hs1.out w2 hQ.fr
    have hro2 := hr1.out w2 hQ.fr
    exact ⟨_, rfl, some (q, ⟨0, 0, undef⟩), ⟨q, rfl, rfl⟩, w2, hQ, hst2, hro2, Fr.refl _ _, hst2, fun _ => hro2, fun h => (by cases h), fun h => (by simp at h)⟩
  obtain ⟨qs, rfl, rfl⟩ := hs2
  (go_simp; refine hK _ _ ?_; clear hK K)
  refine flowU_step (saPB qs) (by decide) rfl ⟨.slice (some ⟨0, 0, none⟩) 1 1, _, 0, rfl, rfl⟩ (fun w' hR => ?_) (fun _ _ v s2 h => (by obtain ⟨g, _, rfl⟩ := h; exact (by decide : (1 : Nat) ≤ 2))) (fun K hK v s2 hs2 => ?_)
  focus
    obtain ⟨wm, hQ, hs0, hro0, hR⟩ := hR
    have hst' := hR.st
    have hlt' := (Array.getElem?_eq_some_iff.1 (show w'.heap[b + 6]? = _ from hst')).1
    have hfr := hR.fr
    have hro := hR.row (Nat.zero_le _)
    clear hR
    go_simp
    exact ⟨some (qs, ⟨1, w'.heap.size, undef⟩), ⟨_, rfl, rfl⟩, wm, hQ, hs0, hro0, hfr.alloc _, (Below.heap_alloc _ _ _ hlt').trans hst', fun _ => hro.alloc _, fun _ => ⟨hfr.size, heap_new rfl⟩, fun h => (by simp at h)⟩
  obtain ⟨g, rfl, rfl⟩ := hs2
  (go_simp; refine hK _ _ ?_; clear hK K)
  refine flowU_step (saPA qs (xs.length + 1) g) (by decide) rfl ⟨_, _, 0, 0, rfl, rfl⟩ (fun w' hR => ?_) (fun _ _ v s2 h => (by obtain ⟨_, _, _, rfl⟩ := h; exact (by decide : (2 : Nat) ≤ 2))) (fun K hK v s2 hs2 => ?_)
  focus
    obtain ⟨wm, hQ, hs0, hro0, hR⟩ := hR
    have hst' := hR.st
    have hlt' := (Array.getElem?_eq_some_iff.1 (show w'.heap[b + 6]? = _ from hst')).1
    obtain ⟨hg1, hg2⟩ := hR.one rfl
    have hro := hR.row (Nat.le_refl _)
    have hfr := hR.fr
    clear hR
    have hgc : w'.cell? ⟨g, 0, none⟩ = some (cloV qs) := by
      have hg3 : w'.heap[g]? = _ := hg2
      simp [World.cell?, hg3]
    obtain ⟨v', w2, hr, hown', hgrow, _, hloc⟩ := run_append_own_at (P := Tryd.prog) w' 0 71 71 1 i0 .nilFunc 1 8 Tryd.underlying71 hi hz0 hz1 hz2 rfl (by decide) un xs.length xs hro ⟨g, 0, none⟩ 1 1 [cloV qs] rfl
      (fun j u hj => by
        cases j with
        | zero => simp at hj; subst hj; simpa [Addr.add] using hgc
        | succ j => simp at hj) (by simp [Value.oneCell', cloV]) (by unfold maxLen; omega) (by omega) (Nat.zero_le _)
    rw [append_exec (P := Tryd.prog) rfl rfl rfl hr]
    have hne : un.ownBlock ≠ some (b + 6) := fun e => by
      obtain ⟨cs, h3⟩ := row_block hro e
      have h6 : w'.heap[b + 6]? = _ := hst'
      rw [h3] at h6
      injection h6 with h6
      injection h6 with _ h6
      exact absurd h6 (by decide)
    obtain ⟨q, cap, rfl⟩ : ∃ q cap, v' = .slice (some ⟨q, 0, none⟩) (xs.length + 1) cap := by
      rcases hown'.2 with ⟨_, h0⟩ | ⟨q, cap, cur, h0, _⟩
      · simp at h0
      · exact ⟨q, cap, h0⟩
    refine ⟨some (qs, ⟨2, g, _⟩), ⟨q, cap, rfl, rfl⟩, wm, hQ, hs0, hro0, hfr.trans ⟨hgrow.os, hgrow.tape, hgrow.output, hgrow.size, fun k hk hT => hgrow.block k hk fun e => hT (.inl e.symm)⟩, (hgrow.block _ hlt' (fun e => hne e.symm)).trans hst', fun h => (by simp at h), fun h => (by cases h), fun _ => ⟨hown', ?_⟩⟩
    rcases hloc with h | h
    · exact .inl h
    · exact .inr ⟨_, h, hfr.size⟩
  obtain ⟨q, cap, rfl, rfl⟩ := hs2
  (go_simp; refine hK _ _ ?_; clear hK K)
  iterate 2 ((refine flowU_readE rfl rfl (fun K hK => ?_); apply Exists.intro; apply And.intro; (focus (intro w' hR; (first | (have hz := saR_late hC hR s1') | (have hR2 : Fr (fun _ => False) W1 w' := hR; have u0 := hR2.cell x0 id (by omega); have u1 := hR2.cell x1 id (by omega); have u2 := hR2.cell x2 id (by omega); have u3 := hR2.cell x3 id (by omega); have t0 := hR2.cell y0 id (by omega); have t1 := hR2.cell y1 id (by omega); have t2 := hR2.cell y2 id (by omega); have t3 := hR2.cell y3 id (by omega); have z2 := hR2.cell e2 id (by omega); have z3 := hR2.cell e3 id (by omega); clear hR2) | skip); clear hR; go_simp; (try go_bits); exact rfl)); go_simp; (try go_bits); refine hK _ ?_; clear hK K))
  refine flowU_step (saPC qs g (Value.slice (some ⟨q, 0, none⟩) (xs.length + 1) cap)) (by decide) rfl ⟨undef, _, rfl, rfl⟩ (fun w' hR => ?_) (fun h => absurd rfl h) (fun K hK v s2 hs2 => ?_)
  focus
    obtain ⟨wm, hQ, hs0, hro0, hR⟩ := hR
    have hst' := hR.st
    rw [if_pos (by simp)] at hst'
    have hlt' := (Array.getElem?_eq_some_iff.1 (show w'.heap[b + 6]? = _ from hst')).1
    obtain ⟨_, _, _, _, _, _, _, d7, ff⟩ := hst'.cells
    have f7 := ff 7
    obtain ⟨n1, n2⟩ := hR.new (Nat.le_refl _)
    have hfr := hR.fr
    clear hR ff
    dsimp only at n1 n2
    have hne : ((Value.slice (some ⟨q, 0, none⟩) (xs.length + 1) cap)).ownBlock ≠ some (b + 6) := fun e => by
      obtain ⟨cs, h3⟩ := row_block n1 e
      have h6 : w'.heap[b + 6]? = _ := hst'
      rw [h3] at h6
      injection h6 with h6
      injection h6 with _ h6
      exact absurd h6 (by decide)
    go_simp
    exact ⟨some (qs, ⟨3, g, (Value.slice (some ⟨q, 0, none⟩) (xs.length + 1) cap)⟩), ⟨rfl, rfl⟩, wm, hQ, hs0, hro0, hfr.setCell (.inl (.inr rfl)) _, hst'.set _, fun h => (by simp at h), fun h => (by simp at h), fun _ => ⟨ownsRow_same n1 fun k hk => heap_set_ne (fun e => hne (e ▸ hk)), n2⟩⟩
  obtain ⟨rfl, rfl⟩ := hs2
  (go_simp; refine hK _ _ ?_; clear hK K)
  refine flowU_nil ?_
  intro X4 hR4
  obtain ⟨wm, hQ, s3, hrow3, hR4⟩ := hR4
  have szm := hQ.fr.size
  have bm : ∀ k, k < W.heap.size → k ≠ b + 2 → wm.heap[k]? = W.heap[k]? := fun k hk hn => (hQ.fr.block k (by omega) hn).trans (b1.block k hk)
  have f3 : Fr F W wm := ((Fr.refl _ W).below b1).trans ⟨hQ.fr.os, hQ.fr.tape, hQ.fr.output, hQ.fr.size, fun k hk hT => hQ.fr.block k hk (fun e => hT (by rw [e]; exact hC.fb 2 (by omega)))⟩
  have hC3 : CRep wm (fun k => F k ∨ (W.heap.size ≤ k ∧ k < wm.heap.size)) b (N + 1) L (.save (a, k) v :: R) un := by
    have hj := fun j (h1 : j ≤ 6) (h2 : j ≠ 2) => bm (b + j) (by omega) (by omega)
    refine ⟨fun k hk => ?_, fun j hj => .inl (hC.fb j hj), ⟨lg, s3, ownsRow_same hrl fun k hk => ?_, fun k hk => .inl (hlgF k hk)⟩, (hC.m0.at_block (hj 0 (by omega) (by omega))).mono (by omega), (hC.m1.at_block (hj 1 (by omega) (by omega))).mono (by omega), ?_, (hC.m3.at_block (hj 3 (by omega) (by omega))).mono (by omega), (hC.m4.at_block (hj 4 (by omega) (by omega))).mono (by omega), (hC.m5.at_block (hj 5 (by omega) (by omega))).mono (by omega)⟩
    · rcases hk with hk | hk
      · have := hfl k hk
        omega
      · exact hk.2
    · obtain ⟨cs, h3⟩ := row_block hrl hk
      exact bm k (hfl k (hlgF k hk)) (map_ne h3 hm4)
    · refine hQ.map.ext fun j _ => ?_
      show _ = (svF (.save (a, k) v :: R) j).map W4
      by_cases e : j = (a, k)
      · simp [svF, e]
      · simp [svF, e]
  have hx3 : unL wm (fun k => F k ∨ (W.heap.size ≤ k ∧ k < wm.heap.size)) b R xs := hxs.stays (fun q cs t ht hq he => (bm q (hfl q hq) (map_ne he hm4)).trans he) fun k hk => .inl hk
  have hqq : qs + 4 < wm.heap.size := (Array.getElem?_eq_some_iff.1 hQ.bh).1
  have hq0 := hQ.q0
  have hv3 : unAt wm (fun k => F k ∨ (W.heap.size ≤ k ∧ k < wm.heap.size)) b R (.save (a, k) v) (cloV qs) :=
    ⟨qs + 4, qs + 3, qs, qs + 1, rfl, ⟨.inr ⟨by omega, by omega⟩, hQ.bh⟩, ⟨.inr ⟨by omega, by omega⟩, hQ.bw⟩, ⟨.inr ⟨by omega, by omega⟩, hQ.bm⟩, ⟨.inr ⟨by omega, by omega⟩, hQ.bs⟩⟩
  have hCb := hC.fb 6 (by omega)
  clear hC hxs hrow hrl hs1 hr1 hQ bm hm4
  have fr4 := hR4.fr
  have st4 := hR4.st
  rw [if_neg (by simp)] at st4
  dsimp only at st4
  obtain ⟨ro4, at4⟩ := hR4.new (by simp)
  clear hR4
  have sz4 := fr4.size
  have f4 : Fr F W X4 := f3.trans ⟨fr4.os, fr4.tape, fr4.output, fr4.size, fun k hk hT => fr4.block k hk (fun e => hT (by
    rcases e with e | e
    · exact hunF k e
    · rw [e]; exact hCb))⟩
  have fin := push_done (F' := fun k => F k ∨ (W.heap.size ≤ k ∧ k < X4.heap.size)) hC3 s3 hrow3 (fun k hk => .inl (hunF k hk)) hx3 hv3 fr4 st4 ro4 at4 (fun k hk => by
    rcases hk with hk | hk
    · exact .inl hk
    · exact .inr ⟨hk.1, Nat.lt_of_lt_of_le hk.2 sz4⟩) (fun k h1 h2 => .inr ⟨by omega, h2⟩) (fun k hk => by
    rcases hk with hk | hk
    · have := hfl k hk
      omega
    · exact hk.2)
  clear hC3 hrow3 hx3 hv3 ro4 st4 at4 fr4
  go_wp2
  go_ret
  exact ⟨rfl, _, fin, f4, fun k hk => .inl hk, fun k hk => hk.imp id (fun h => h.1)⟩

set_option maxRecDepth 100000 in
set_option maxHeartbeats 16000000 in
theorem Save_no (h : SRep W F b N L R) (hW : 3 ≤ W.heap.size) (hT : KT W) (hL : ∀ K ∈ L, Kok W K) {a : ByteArray} {k : Nat} (hp : okP (a, k)) (v : Nat) (hok : (loaN L R a k).2 = 190) :
    Calls Tryd.prog 21 #[ptr (b + 6), .string a, W4 k, W4 v] W (muPost W F b (N + 1) L R (.int .i64 190)) := by
  have hfl := h.flt
  have hS := fun (w' : World) (hb : Below W.heap.size W w') => h.below hb
  have cL := fun o1 o2 => Load_all (h.below (((Below.refl _ W).alloc (Nat.le_refl _) o1).alloc (by simp) o2)) (by simp; omega) (hT.below (((Below.refl _ W).alloc (Nat.le_refl _) o1).alloc (by simp) o2) hW) (fun K hK => (hL K hK).below (((Below.refl _ W).alloc (Nat.le_refl _) o1).alloc (by simp) o2)) hp
  rw [hok] at cL
  generalize (loaN L R a k).1 = ov at *
  clear h
  unfold ptr at *
  go_enter Tryd.func21, Tryd.ntmps21
  go_wp2_with (go_at_call 14; refine (cL _ _).mono ?_; rintro e wa ⟨rfl, hb_wa⟩; have hc_wa := (bcell hb_wa).1; have hf_wa := (bcell hb_wa).2; have hz_wa : _ ≤ wa.heap.size := hb_wa.size; (try simp only [World.size_alloc, World.heap_drewN, World.size_setCell, heap_drew] at hc_wa hf_wa hz_wa); have hz_wa_W_0 : W.heap.size < wa.heap.size := (by omega); have hz_wa_W_1 : W.heap.size + 1 < wa.heap.size := (by omega))
  have b1 : Below W.heap.size W (wa.alloc (.cells #[.int .u64 (lb ov 0 : Nat), .int .u64 (lb ov 1 : Nat), .int .u64 (lb ov 2 : Nat), .int .u64 (lb ov 3 : Nat)] 25)) := ((((Below.refl _ W).alloc (Nat.le_refl _) _).alloc (by simp) _).trans (hb_wa.mono (by simp; omega))).alloc (by omega) _
  go_ret
  exact ⟨rfl, F, (hS _ b1).mono (fun _ h => h) (by omega) (fun k hk => Nat.lt_of_lt_of_le (hfl k hk) b1.size), (Fr.refl _ W).below b1, fun _ h => h, fun _ h => .inl h⟩
end
end Go.Proofs.YtcdjdnbdblpofaaDoor
