/-
  A region whose order of evaluation is left open, in which some operations yield one of many values: walked once in the order of the text. Conditions: none.
-/
import Derived.Test.YtjdhkdmcglnihaaFlow2
namespace Go.Proofs.Ytjdhkdmcglnihaa
open Go.RowKit

section flow4
variable {P : Program} {ops : Array Oper} {σ : Type} {R : σ → Act → World → Prop} {vs : Nat → Value} {kd : Nat → Nat} {Φ : Nat → Value → Prop}

/-- What an operation that yields one of many values has left. -/
def newBy (P : Program) (Φ : Value → Prop) (C : Value → World → Prop) : Result Next → Prop
  | .ok (.value u) w => Φ u ∧ C u w
  | .ok (.enter f args) w => Calls P f args w (fun e w' => ∃ u, e = .returned u ∧ Φ u ∧ C u w')
  | _ => False

/-- An operation that yields a value of Φ. -/
def YM (P : Program) (ops : Array Oper) (R : σ → Act → World → Prop) (Φ : Value → Prop) (o : Oper) (a : Act) (s : σ) : Prop :=
  Region.wanted o (yielded ops a.tmps) = true ∧ ∀ a' w', (∀ t ∈ o.looksAt ops, a'.tmps.getD t undef = a.tmps.getD t undef) → R s a' w' → newBy P Φ (fun v w2 => R s (a'.put o.dst v) w2) ((execOp a.eval o).run P w')

def stepH (P : Program) (ops : Array Oper) (R : σ → Act → World → Prop) (vs : Nat → Value) (kd : Nat → Nat) (Φ : Nat → Value → Prop) (i : Nat) (K : Act → σ → Prop) (a : Act) (s : σ) : Prop :=
  match ops[i]? with
  | none => K a s
  | some o => if kd i = 3 then YM P ops R (Φ i) o a s ∧ ∀ v, Φ i v → K (a.put o.dst v) s else ∃ s2, YG P ops R (kd i) o a s (vs i) s2 ∧ K (a.put o.dst (vs i)) s2

def wpH (P : Program) (ops : Array Oper) (R : σ → Act → World → Prop) (vs : Nat → Value) (kd : Nat → Nat) (Φ : Nat → Value → Prop) (Q : Act → σ → Prop) : Nat → Array Bool → Act → σ → Prop
  | 0, listed, a, s => Region.ready .any ops listed = [] ∧ Q a s
  | fuel + 1, listed, a, s =>
    (Region.ready .any ops listed = [] → Q a s) ∧
    ∀ i ∈ Region.ready .any ops listed, stepH P ops R vs kd Φ i (wpH P ops R vs kd Φ Q fuel (listed.setIfInBounds i true)) a s

def flowH (P : Program) (ops : Array Oper) (R : σ → Act → World → Prop) (vs : Nat → Value) (kd : Nat → Nat) (Φ : Nat → Value → Prop) (Q : Act → σ → Prop) : Nat → List Oper → Act → σ → Prop
  | _, [], a, s => Q a s
  | k, o :: rest, a, s => if kd k = 3 then YM P ops R (Φ k) o a s ∧ ∀ v, Φ k v → flowH P ops R vs kd Φ Q (k + 1) rest (a.put o.dst v) s
      else ∃ s2, YG P ops R (kd k) o a s (vs k) s2 ∧ flowH P ops R vs kd Φ Q (k + 1) rest (a.put o.dst (vs k)) s2

theorem YM_put {Ψ : Value → Prop} {oi : Oper} {a : Act} {s : σ} {dst : Option Tmp} (u : Value) (hs : ∀ cs b, oi.op ≠ .select cs b) (h : ∀ d, dst = some d → d ∉ oi.looksAt ops) :
    YM P ops R Ψ oi (a.put dst u) s ↔ YM P ops R Ψ oi a s := by
  have e : ∀ t, t ∈ oi.looksAt ops → (a.put dst u).tmps.getD t undef = a.tmps.getD t undef := fun t ht => by
    cases dst with
    | none => rfl
    | some d =>
      have hne : d ≠ t := fun hh => h d rfl (hh ▸ ht)
      simp [Act.put, Array.getElem?_setIfInBounds_ne hne]
  have e2 : ∀ a' : Act, (∀ t ∈ oi.looksAt ops, a'.tmps.getD t undef = (a.put dst u).tmps.getD t undef) ↔ (∀ t ∈ oi.looksAt ops, a'.tmps.getD t undef = a.tmps.getD t undef) := fun a' =>
    ⟨fun hh t ht => (hh t ht).trans (e t ht), fun hh t ht => (hh t ht).trans (e t ht).symm⟩
  unfold YM
  simp only [execOp_put oi hs a dst u h, wanted_put oi a dst u h, e2]

/-- What is known of operation i when it is taken. -/
def knowsH (P : Program) (ops : Array Oper) (R : σ → Act → World → Prop) (vs : Nat → Value) (kd : Nat → Nat) (Φ : Nat → Value → Prop) (i : Nat) (oi : Oper) (a : Act) (s s2 : σ) : Prop :=
  if kd i = 3 then YM P ops R (Φ i) oi a s ∧ s2 = s else YG P ops R (kd i) oi a s (vs i) s2

theorem wpH_first {Q : Act → σ → Prop} {i : Nat} {oi : Oper} (hi : ops[i]? = some oi) (hsel : ∀ (j : Nat) (o : Oper) cs b, ops[j]? = some o → o.op ≠ .select cs b)
    (hE : orderG ops kd = true) (hΦ : ∀ i, ∃ v, Φ i v) : ∀ (fuel : Nat) (listed : Array Bool) (a : Act) (s s2 : σ),
      (∀ j oj, ops[j]? = some oj → j ≠ i → listed.getD j true = false → (∀ e ∈ oj.after, Region.binds .any e = true → e.on ≠ i) → oi.apart ops oj = true) →
      i ∈ Region.ready .any ops listed → knowsH P ops R vs kd Φ i oi a s s2 →
      (if kd i = 3 then ∀ v, Φ i v → wpH P ops R vs kd Φ Q fuel (listed.setIfInBounds i true) (a.put oi.dst v) s2 else wpH P ops R vs kd Φ Q fuel (listed.setIfInBounds i true) (a.put oi.dst (vs i)) s2) → wpH P ops R vs kd Φ Q (fuel + 1) listed a s := by
  obtain ⟨v0, hv0⟩ := hΦ i
  intro fuel
  have here : ∀ (fuel : Nat) (listed : Array Bool) (a : Act) (s s2 : σ), knowsH P ops R vs kd Φ i oi a s s2 →
      (if kd i = 3 then ∀ v, Φ i v → wpH P ops R vs kd Φ Q fuel (listed.setIfInBounds i true) (a.put oi.dst v) s2 else wpH P ops R vs kd Φ Q fuel (listed.setIfInBounds i true) (a.put oi.dst (vs i)) s2) →
      stepH P ops R vs kd Φ i (wpH P ops R vs kd Φ Q fuel (listed.setIfInBounds i true)) a s := by
    intro fuel listed a s s2 hy H
    unfold stepH
    unfold knowsH at hy
    simp only [hi]
    by_cases h3 : kd i = 3
    · rw [if_pos h3] at hy H ⊢
      obtain ⟨hy, rfl⟩ := hy
      exact ⟨hy, H⟩
    · rw [if_neg h3] at hy H ⊢
      exact ⟨s2, hy, H⟩
  induction fuel with
  | zero =>
    intro listed a s s2 _ hr hy H
    refine ⟨fun h => (by rw [h] at hr; cases hr), fun j hj => ?_⟩
    by_cases hji : j = i
    · subst hji
      exact here _ _ _ _ _ hy H
    · have hm := ready_mono hj hji
      have hn : Region.ready .any ops (listed.setIfInBounds i true) = [] := by
        by_cases h3 : kd i = 3
        · rw [if_pos h3] at H; exact (H v0 hv0).1
        · rw [if_neg h3] at H; exact H.1
      rw [hn] at hm
      cases hm
  | succ fuel ih =>
    intro listed a s s2 hfree hr hy H
    refine ⟨fun h => (by rw [h] at hr; cases hr), fun j hj => ?_⟩
    by_cases hji : j = i
    · subst hji
      exact here _ _ _ _ _ hy H
    · have hiun := (mem_ready.1 hr).1
      obtain ⟨hjun, oj, hoj, hall⟩ := mem_ready.1 hj
      have hnot : ∀ e ∈ oj.after, Region.binds .any e = true → e.on ≠ i := fun e he hb heq => by
        have h2 := hall e he hb
        rw [heq] at h2
        rcases Nat.lt_or_ge i listed.size with h' | h'
        · simp [h'] at hiun h2; rw [hiun] at h2; cases h2
        · simp [Array.getElem?_eq_none h'] at h2
      obtain ⟨p1, p2, p3⟩ := Oper.apart_spec (hfree j oj hoj hji hjun hnot)
      have hfree' : ∀ k ok, ops[k]? = some ok → k ≠ i → (listed.setIfInBounds j true).getD k true = false →
          (∀ e ∈ ok.after, Region.binds .any e = true → e.on ≠ i) → oi.apart ops ok = true := fun k ok hk hki hun hno => by
        refine hfree k ok hk hki ?_ hno
        by_cases hjk : j = k
        · subst hjk; exact hjun
        · rw [getD_set_ne true hjk] at hun; exact hun
      have hr' := ready_mono hr (Ne.symm hji)
      have hset := Array.setIfInBounds_comm (xs := listed) (i := j) (j := i) true true hji
      unfold knowsH at hy
      unfold stepH
      simp only [hoj]
      by_cases ki : kd i = 3
      · rw [if_pos ki] at hy H
        obtain ⟨hy, rfl⟩ := hy
        have kn : ∀ a', YM P ops R (Φ i) oi a' s2 → knowsH P ops R vs kd Φ i oi a' s2 s2 := fun a' hy => by unfold knowsH; rw [if_pos ki]; exact ⟨hy, rfl⟩
        have Hj := fun v hv => (H v hv).2 j (ready_mono hj hji)
        unfold stepH at Hj
        simp only [hoj] at Hj
        by_cases kj : kd j = 3
        · rw [if_pos kj]
          simp only [if_pos kj] at Hj
          refine ⟨(YM_put v0 (fun cs b => hsel j oj cs b hoj) p1).1 (Hj v0 hv0).1, fun u hu => ih _ _ s2 s2 hfree' hr' (kn _ ((YM_put u (fun cs b => hsel i oi cs b hi) p3).2 hy)) ?_⟩
          rw [if_pos ki]
          intro v hv
          have := (Hj v hv).2 u hu
          rw [← hset, Act.put_comm a v u p2] at this
          exact this
        · rw [if_neg kj]
          simp only [if_neg kj] at Hj
          have hs2 : ∀ v (hv : Φ i v), (YG P ops R (kd j) oj a s2 (vs j) s2) ∧ wpH P ops R vs kd Φ Q fuel ((listed.setIfInBounds i true).setIfInBounds j true) ((a.put oi.dst v).put oj.dst (vs j)) s2 := fun v hv => by
            obtain ⟨s3, hyj, hK⟩ := Hj v hv
            rw [YG_put v (fun cs b => hsel j oj cs b hoj) p1] at hyj
            by_cases kj0 : kd j = 0
            · rw [kj0] at hyj ⊢
              obtain ⟨rfl, hyj'⟩ := YG_zero (s3 := s2) hyj
              exact ⟨hyj', hK⟩
            · by_cases kj1 : kd j = 1
              · rw [kj1] at hyj ⊢
                obtain rfl := YG_one hyj
                exact ⟨hyj, hK⟩
              · exfalso
                rcases orderG_spec hE hoj hi kj0 kj1 kj (by rw [ki]; decide) (Ne.symm hji) with h | h
                · exact not_both hiun hj h
                · exact not_both hjun hr h
          refine ⟨s2, (hs2 v0 hv0).1, ih _ _ s2 s2 hfree' hr' (kn _ ((YM_put (vs j) (fun cs b => hsel i oi cs b hi) p3).2 hy)) ?_⟩
          rw [if_pos ki]
          intro v hv
          have := (hs2 v hv).2
          rw [← hset, Act.put_comm a v (vs j) p2] at this
          exact this
      · rw [if_neg ki] at hy H
        have kn : ∀ a' s s2, YG P ops R (kd i) oi a' s (vs i) s2 → knowsH P ops R vs kd Φ i oi a' s s2 := fun a' s s2 h => by unfold knowsH; rw [if_neg ki]; exact h
        have Hj := H.2 j (ready_mono hj hji)
        unfold stepH at Hj
        simp only [hoj] at Hj
        by_cases kj : kd j = 3
        · rw [if_pos kj] at Hj ⊢
          have hs2 : s2 = s ∨ kd i = 2 ∨ (kd i ≠ 0 ∧ kd i ≠ 1) := by
            by_cases ki0 : kd i = 0
            · rw [ki0] at hy; exact .inl (YG_zero (s3 := s) hy).1
            · by_cases ki1 : kd i = 1
              · rw [ki1] at hy; exact .inl (YG_one hy)
              · exact .inr (.inr ⟨ki0, ki1⟩)
          have no : ¬ (kd i ≠ 0 ∧ kd i ≠ 1) := fun hh => by
            rcases orderG_spec hE hi hoj hh.1 hh.2 ki (by rw [kj]; decide) hji with h | h
            · exact not_both hjun hr h
            · exact not_both hiun hj h
          have hs2' : s2 = s := by
            rcases hs2 with h | h | h
            · exact h
            · exact (no ⟨by rw [h]; decide, by rw [h]; decide⟩).elim
            · exact (no h).elim
          subst hs2'
          refine ⟨(YM_put (vs i) (fun cs b => hsel j oj cs b hoj) p1).1 Hj.1, fun u hu => ih _ _ s2 s2 hfree' hr' (kn _ _ _ ((YG_put u (fun cs b => hsel i oi cs b hi) p3).2 hy)) ?_⟩
          rw [if_neg ki]
          have := Hj.2 u hu
          rw [← hset, Act.put_comm a (vs i) u p2] at this
          exact this
        · rw [if_neg kj] at Hj ⊢
          obtain ⟨s3, hyj, hK⟩ := Hj
          rw [YG_put (vs i) (fun cs b => hsel j oj cs b hoj) p1] at hyj
          rw [← hset, Act.put_comm a (vs i) (vs j) p2] at hK
          by_cases ki0 : kd i = 0
          · rw [ki0] at hy
            obtain ⟨rfl, _⟩ := YG_zero (s3 := s) hy
            refine ⟨s3, hyj, ih _ _ s3 s3 hfree' hr' (kn _ _ _ ?_) (by rw [if_neg ki]; exact hK)⟩
            rw [ki0]
            exact (YG_put (vs j) (fun cs b => hsel i oi cs b hi) p3).2 (YG_zero hy).2
          · by_cases kj0 : kd j = 0
            · rw [kj0] at hyj
              obtain ⟨rfl, _⟩ := YG_zero (s3 := s) hyj
              refine ⟨s, by rw [kj0]; exact (YG_zero hyj).2, ih _ _ s s3 hfree' hr' (kn _ _ _ ?_) (by rw [if_neg ki]; exact hK)⟩
              exact (YG_put (vs j) (fun cs b => hsel i oi cs b hi) p3).2 hy
            · by_cases ki1 : kd i = 1
              · by_cases kj1 : kd j = 1
                · rw [ki1] at hy
                  rw [kj1] at hyj
                  obtain rfl := YG_one hy
                  obtain rfl := YG_one hyj
                  refine ⟨s3, by rw [kj1]; exact hyj, ih _ _ s3 s3 hfree' hr' (kn _ _ _ ?_) (by rw [if_neg ki]; exact hK)⟩
                  rw [ki1]
                  exact (YG_put (vs j) (fun cs b => hsel i oi cs b hi) p3).2 hy
                · exfalso
                  rcases orderG_spec hE hoj hi kj0 kj1 kj ki0 (Ne.symm hji) with h | h
                  · exact not_both hiun hj h
                  · exact not_both hjun hr h
              · exfalso
                rcases orderG_spec hE hi hoj ki0 ki1 ki kj0 hji with h | h
                · exact not_both hjun hr h
                · exact not_both hiun hj h

theorem wpH_lex {Q : Act → σ → Prop} (hs : Region.noSelect ops = true) (hE : orderG ops kd = true) (hΦ : ∀ i, ∃ v, Φ i v) : ∀ (l : List Oper) (k : Nat) (listed : Array Bool) (a : Act) (s : σ), (∀ j, l[j]? = ops[k + j]?) →
    Region.lexFrom .any ops l.length k listed = true → flowH P ops R vs kd Φ Q k l a s → wpH P ops R vs kd Φ Q l.length listed a s
  | [], _, _, _, _, _, hB, h => ⟨by simpa [Region.lexFrom] using hB, h⟩
  | o :: l, k, listed, a, s, hl, hB, h => by
    have h0 : ops[k]? = some o := by simpa using (hl 0).symm
    simp only [List.length_cons, Region.lexFrom, Bool.and_eq_true] at hB
    obtain ⟨⟨hr, hf⟩, hB'⟩ := hB
    have hl' : ∀ j, l[j]? = ops[k + 1 + j]? := fun j => by have := hl (j + 1); simpa [Nat.add_assoc, Nat.add_comm 1 j] using this
    unfold flowH at h
    by_cases h3 : kd k = 3
    · rw [if_pos h3] at h
      refine wpH_first h0 (Region.noSelect_spec hs) hE hΦ l.length listed a s s (Region.free_spec h0 hf) (by simpa using hr) (by unfold knowsH; rw [if_pos h3]; exact ⟨h.1, rfl⟩) ?_
      rw [if_pos h3]
      exact fun v hv => wpH_lex hs hE hΦ l (k + 1) _ _ s hl' hB' (h.2 v hv)
    · rw [if_neg h3] at h
      obtain ⟨s2, hy, hK⟩ := h
      refine wpH_first h0 (Region.noSelect_spec hs) hE hΦ l.length listed a s s2 (Region.free_spec h0 hf) (by simpa using hr) (by unfold knowsH; rw [if_neg h3]; exact hy) ?_
      rw [if_neg h3]
      exact wpH_lex hs hE hΦ l (k + 1) _ _ s2 hl' hB' hK

theorem wpAnyIn_of_wpH {r : Option Nat} {n : Nat} {Q : Act → σ → Prop} {Q' : Exit → Act → World → Prop} (hd : noDeferB ops = true) (hput : ∀ i o, ops[i]? = some o → kd i ≠ 3 → ∀ s a w v, R s a w → R s (a.put o.dst v) w)
    (hQ : ∀ a s, Q a s → ∀ w', R s a w' → Q' .normal a w') :
    ∀ (fuel : Nat) (listed : Array Bool) (a : Act) (s : σ), wpH P ops R vs kd Φ Q fuel listed a s → ∀ w', R s a w' → wpAnyIn (FW r) n P .any ops Q' fuel listed a w'
  | 0, _, a, s, h, w', hw => ⟨h.1, hQ a s h.2 w' hw⟩
  | fuel + 1, listed, a, s, h, w', hw => by
    refine ⟨fun h0 => hQ a s (h.1 h0) w' hw, fun i hi => ?_⟩
    have hs := h.2 i hi
    have ih := fun a2 s2 hk => wpAnyIn_of_wpH (r := r) (n := n) hd hput hQ fuel (listed.setIfInBounds i true) a2 s2 hk
    unfold stepH at hs
    unfold wpOpIn
    cases ho : ops[i]? with
    | none =>
      simp only [ho] at hs ⊢
      exact ih _ _ hs _ hw
    | some o =>
      simp only [ho] at hs ⊢
      have hsem : Oper.semAt (FW r).round a.eval o = execOp a.eval o := Oper.semAt_eq _ _ _ fun c => noDefer_spec hd i o c ho
      by_cases h3 : kd i = 3
      · rw [if_pos h3] at hs
        obtain ⟨⟨hg, hy⟩, hK⟩ := hs
        rw [if_pos hg]
        refine ⟨about_FW _ _ _ _, ?_⟩
        have h2 := hy a w' (fun _ _ => rfl) hw
        rw [hsem]
        unfold newBy at h2
        split at h2
        · rename_i u w'' heq
          rw [heq]
          exact ih _ _ (hK u h2.1) _ h2.2
        · rename_i f args w'' heq
          rw [heq]
          refine ⟨fun h => by simp [FW] at h, callsIn_FW (h2.mono ?_)⟩
          rintro e w3 ⟨u, rfl, hu, hR⟩
          exact ih _ _ (hK u hu) _ hR
        · exact h2.elim
      · rw [if_neg h3] at hs
        obtain ⟨s2, hy, hK⟩ := hs
        rcases hy with ⟨hwd, h0, _, h1⟩ | ⟨hwd, hv, he⟩
        · rw [if_pos hwd]
          refine ⟨about_FW _ _ _ _, ?_⟩
          rw [hsem]
          by_cases hk : kd i = 0
          · obtain ⟨rfl, h2⟩ := h0 hk
            rw [h2 _ _ w' hw]
            exact ih _ _ hK _ (hput i o ho h3 _ _ _ _ hw)
          · have h2 := h1 hk a w' (fun _ _ => rfl) hw
            generalize hv : vs i = v at *
            unfold leftBy at h2
            split at h2
            · rename_i u w'' heq
              rw [heq]
              obtain ⟨rfl, h3⟩ := h2
              exact ih _ _ hK _ h3
            · rename_i w'' heq
              rw [heq]
              obtain ⟨rfl, h3⟩ := h2
              exact ih _ _ hK _ h3
            · rename_i f args w'' heq
              rw [heq]
              refine ⟨fun h => by simp [FW] at h, callsIn_FW (h2.mono ?_)⟩
              rintro e w3 ⟨rfl, h3⟩
              exact ih _ _ hK _ h3
            · exact h2.elim
        · rw [if_neg (by simp [hwd])]
          subst he
          rw [← hv] at hK
          exact ⟨about_FW _ _ _ _, ih _ _ hK _ (hput i o ho h3 _ _ _ _ hw)⟩

theorem wpIn_flowH {r : Option Nat} {n id : Nat} {Q : Exit → Act → World → Prop} {a : Act} {w : World} {l : List Oper} (kd : Nat → Nat) (R : σ → Act → World → Prop) (Φ : Nat → Value → Prop) (vs : Nat → Value) (s : σ) (h0 : R s a w.drew) (hm : P.follows .mixedOrders = true)
    (hB : (Region.lexB .any l.toArray && orderG l.toArray kd && noDeferB l.toArray) = true) (hΦ : ∀ i, ∃ v, Φ i v) (hput : ∀ i o, l.toArray[i]? = some o → kd i ≠ 3 → ∀ s a w v, R s a w → R s (a.put o.dst v) w)
    (h : flowH P l.toArray R vs kd Φ (fun a' s2 => ∀ w', R s2 a' w' → Q .normal a' w') 0 l a s) : (Code.region id l.toArray true).wpIn (FW r) n P Q a w := by
  simp only [Bool.and_eq_true] at hB
  obtain ⟨⟨hB, hE⟩, hd⟩ := hB
  simp only [Region.lexB, Bool.and_eq_true] at hB
  refine wpIn_region_any hm ?_
  have H := wpH_lex (P := P) (R := R) (kd := kd) (vs := vs) hB.1 hE hΦ l 0 (Array.replicate l.toArray.size false) a s (by simp) (by simpa using hB.2) h
  have := wpAnyIn_of_wpH (r := r) (n := n) (Q' := Q) hd hput (fun a' w2 hq w' hw => hq w' hw) _ _ _ _ H w.drew h0
  simpa using this

theorem wp_flowH {id : Nat} {Q : Exit → Act → World → Prop} {a : Act} {w : World} {l : List Oper} (kd : Nat → Nat) (R : σ → Act → World → Prop) (Φ : Nat → Value → Prop) (vs : Nat → Value) (s : σ) (h0 : R s a w.drew) (hm : P.follows .mixedOrders = true)
    (hB : (Region.lexB .any l.toArray && orderG l.toArray kd && noDeferB l.toArray) = true) (hΦ : ∀ i, ∃ v, Φ i v) (hput : ∀ i o, l.toArray[i]? = some o → kd i ≠ 3 → ∀ s a w v, R s a w → R s (a.put o.dst v) w)
    (h : flowH P l.toArray R vs kd Φ (fun a' s2 => ∀ w', R s2 a' w' → Q .normal a' w') 0 l a s) : (Code.region id l.toArray true).wp P Q a w :=
  wpIn_wide.1 (show (Code.region id l.toArray true).wpIn Fence.wide 0 P Q a w from wpIn_flowH (r := none) kd R Φ vs s h0 hm hB hΦ hput h)


/-! ### Boxes that are filled at the end, and values that stand for what lies behind them -/

/-- What is said of a value survives new memory, and a store into a box. -/
structure Keeps (FR : List Tmp) (T : Tmp → TypeId) (Ψ : Tmp → Value → World → Prop) : Prop where
  below : ∀ t v w w', Ψ t v w → Below w.heap.size w w' → Ψ t v w'
  box : ∀ t v w b old cs d, d ∈ FR → w.heap[b]? = some (.cells old (T d) (0, 0)) → Ψ t v w → Ψ t v (w.setRow b cs)

/-- As RF, and of each temporary of SL, once it is written, Ψ. -/
def RS (N : Nat) (w0 : World) (FR : List Tmp) (T : Tmp → TypeId) (SL : List Tmp) (Ψ : Tmp → Value → World → Prop) (s : Tmp → Array Value) (a : Act) (w : World) : Prop :=
  RF N w0 FR T s a w ∧ ∀ t ∈ SL, a.tmps.getD t undef = undef ∨ Ψ t (a.tmps.getD t undef) w

variable {N : Nat} {w0 : World} {FR : List Tmp} {T : Tmp → TypeId} {SL : List Tmp} {Ψ : Tmp → Value → World → Prop}

theorem RS_start {s : Tmp → Array Value} {a : Act} {w : World} (h : ∀ d ∈ FR, a.tmps.getD d undef = undef) (h2 : ∀ d ∈ SL, a.tmps.getD d undef = undef) : RS N w FR T SL Ψ s a w.drew :=
  ⟨RF_start h, fun d hd => .inl (h2 d hd)⟩

theorem RS_put {s : Tmp → Array Value} {a : Act} {w : World} {dst : Option Tmp} {v : Value} (hd : ∀ d ∈ FR, dst ≠ some d) (hs : ∀ d ∈ SL, dst ≠ some d) (h : RS N w0 FR T SL Ψ s a w) : RS N w0 FR T SL Ψ s (a.put dst v) w := by
  refine ⟨RF_put hd h.1, fun t ht => ?_⟩
  rw [getD_put_ne (hs t ht)]
  exact h.2 t ht

theorem RS_below {s : Tmp → Array Value} {a : Act} {w w' : World} (hK : Keeps FR T Ψ) (hN : N ≤ w0.heap.size) (h : RS N w0 FR T SL Ψ s a w) (hb : Below w.heap.size w w') : RS N w0 FR T SL Ψ s a w' :=
  ⟨RF_below hN h.1 hb, fun t ht => (h.2 t ht).imp id fun h1 => hK.below _ _ _ _ h1 hb⟩

theorem RS_any {s : Tmp → Array Value} {a : Act} {w w' : World} {t : Tmp} {v : Value} (hK : Keeps FR T Ψ) (hN : N ≤ w0.heap.size) (hd : ∀ d ∈ FR, some t ≠ some d) (h : RS N w0 FR T SL Ψ s a w) (hb : Below w.heap.size w w') (hv : Ψ t v w') : RS N w0 FR T SL Ψ s (a.put (some t) v) w' := by
  refine ⟨RF_put hd (RF_below hN h.1 hb), fun u hu => ?_⟩
  by_cases hut : u = t
  · subst hut
    rcases getD_put_eq (a := a) (d := u) (v := v) with e | e
    · rw [e]; exact .inr hv
    · exact .inl e
  · rw [getD_put_ne (by intro hh; exact hut (Option.some.inj hh).symm)]
    exact (h.2 u hu).imp id fun h1 => hK.below _ _ _ _ h1 hb

theorem RS_new {s : Tmp → Array Value} {a : Act} {w : World} {d : Tmp} (hK : Keeps FR T Ψ) (hN : N ≤ w0.heap.size) (hd : ∀ t ∈ SL, some d ≠ some t) (h : RS N w0 FR T SL Ψ s a w) :
    RS N w0 FR T SL Ψ s (a.put (some d) (.pointer (some ⟨w.heap.size, 0, none⟩))) (w.alloc (.cells (s d) (T d) (0, 0))) := by
  refine ⟨RF_new hN h.1, fun t ht => ?_⟩
  rw [getD_put_ne (hd t ht)]
  exact (h.2 t ht).imp id fun h1 => hK.below _ _ _ _ h1 ((Below.refl _ _).alloc (Nat.le_refl _) _)

theorem RS_store {s : Tmp → Array Value} {a : Act} {w : World} {d : Tmp} {b : Nat} {cs : Array Value} (hK : Keeps FR T Ψ) (h : RS N w0 FR T SL Ψ s a w) (hd : d ∈ FR) (hb : a.tmps.getD d undef = .pointer (some ⟨b, 0, none⟩)) :
    RS N w0 FR T SL Ψ (updS s d cs) a (w.setRow b cs) :=
  ⟨RF_store h.1 hd hb, fun t ht => (h.2 t ht).imp id fun h1 => hK.box t _ w b _ cs d hd (RF_at h.1 hd hb).2 h1⟩

/-- Each operation of another kind than 3 writes no temporary of FR or SL. -/
def freshS (ops : Array Oper) (kd : Nat → Nat) (FR SL : List Tmp) : Bool := freshB ops kd FR && freshB ops kd SL && FR.all (fun d => SL.all fun t => d != t)

theorem wp_flowM {id : Nat} {Q : Exit → Act → World → Prop} {a : Act} {w : World} {l : List Oper} (kd : Nat → Nat) (FR : List Tmp) (T : Tmp → TypeId) (SL : List Tmp) (Ψ : Tmp → Value → World → Prop) (Φ : Nat → Value → Prop) (vs : Nat → Value) (s : Tmp → Array Value) (N : Nat)
    (h0 : ∀ d ∈ FR, a.tmps.getD d undef = undef) (h1 : ∀ d ∈ SL, a.tmps.getD d undef = undef) (hm : P.follows .mixedOrders = true)
    (hB : (Region.lexB .any l.toArray && orderG l.toArray kd && noDeferB l.toArray && freshS l.toArray kd FR SL) = true) (hΦ : ∀ i, ∃ v, Φ i v)
    (h : flowH P l.toArray (RS N w FR T SL Ψ) vs kd Φ (fun a' s2 => ∀ w', RS N w FR T SL Ψ s2 a' w' → Q .normal a' w') 0 l a s) : (Code.region id l.toArray true).wp P Q a w := by
  rw [Bool.and_eq_true] at hB
  obtain ⟨hB1, hB2⟩ := hB
  unfold freshS at hB2
  simp only [Bool.and_eq_true] at hB2
  exact wp_flowH kd (RS N w FR T SL Ψ) Φ vs s (RS_start h0 h1) hm hB1 hΦ (fun i o hi h3 s a w v hR => RS_put (freshB_spec hB2.1.1 hi h3) (freshB_spec hB2.1.2 hi h3) hR) h

theorem wpIn_flowM {r : Option Nat} {n id : Nat} {Q : Exit → Act → World → Prop} {a : Act} {w : World} {l : List Oper} (kd : Nat → Nat) (FR : List Tmp) (T : Tmp → TypeId) (SL : List Tmp) (Ψ : Tmp → Value → World → Prop) (Φ : Nat → Value → Prop) (vs : Nat → Value) (s : Tmp → Array Value) (N : Nat)
    (h0 : ∀ d ∈ FR, a.tmps.getD d undef = undef) (h1 : ∀ d ∈ SL, a.tmps.getD d undef = undef) (hm : P.follows .mixedOrders = true)
    (hB : (Region.lexB .any l.toArray && orderG l.toArray kd && noDeferB l.toArray && freshS l.toArray kd FR SL) = true) (hΦ : ∀ i, ∃ v, Φ i v)
    (h : flowH P l.toArray (RS N w FR T SL Ψ) vs kd Φ (fun a' s2 => ∀ w', RS N w FR T SL Ψ s2 a' w' → Q .normal a' w') 0 l a s) : (Code.region id l.toArray true).wpIn (FW r) n P Q a w := by
  rw [Bool.and_eq_true] at hB
  obtain ⟨hB1, hB2⟩ := hB
  unfold freshS at hB2
  simp only [Bool.and_eq_true] at hB2
  exact wpIn_flowH kd (RS N w FR T SL Ψ) Φ vs s (RS_start h0 h1) hm hB1 hΦ (fun i o hi h3 s a w v hR => RS_put (freshB_spec hB2.1.1 hi h3) (freshB_spec hB2.1.2 hi h3) hR) h

theorem flowM_nil {Q : Act → (Tmp → Array Value) → Prop} {k : Nat} {a : Act} {s : Tmp → Array Value} (h : Q a s) : flowH P ops (RS N w0 FR T SL Ψ) vs kd Φ Q k [] a s := h

theorem flowM_late {Q : Act → (Tmp → Array Value) → Prop} {k : Nat} {a : Act} {s : Tmp → Array Value} {o : Oper} {rest : List Oper} (hk : kd k = 0) (hw : Region.wanted o (yielded ops a.tmps) = true)
    (h : ∀ K : Act → Prop, (∀ a', flowH P ops (RS N w0 FR T SL Ψ) vs kd Φ Q (k + 1) rest a' s → K a') → (∀ w', Below N w0 w' → (execOp a.eval o).run P w' = .ok (.value (vs k)) w') ∧ K (a.put o.dst (vs k))) : flowH P ops (RS N w0 FR T SL Ψ) vs kd Φ Q k (o :: rest) a s := by
  obtain ⟨h1, h2⟩ := h _ fun _ h => h
  unfold flowH
  rw [if_neg (by rw [hk]; decide)]
  exact ⟨s, .inl ⟨hw, fun _ => ⟨rfl, fun _ _ w' hR => h1 w' hR.1.1⟩, fun _ => rfl, fun h' => absurd hk h'⟩, h2⟩

theorem flowM_quiet {Q : Act → (Tmp → Array Value) → Prop} {k : Nat} {a : Act} {s : Tmp → Array Value} {o : Oper} {rest : List Oper} (hk : kd k = 1) (hK : Keeps FR T Ψ) (hN : N ≤ w0.heap.size) (hd : FR.all (fun d => o.dst != some d) = true) (hd2 : SL.all (fun d => o.dst != some d) = true) (hw : Region.wanted o (yielded ops a.tmps) = true)
    (h : ∀ K : Act → Prop, (∀ a', flowH P ops (RS N w0 FR T SL Ψ) vs kd Φ Q (k + 1) rest a' s → K a') →
      (∀ w', Below N w0 w' → (∀ t ∈ SL, t ∈ o.looksAt ops → a.tmps.getD t undef = undef ∨ Ψ t (a.tmps.getD t undef) w') → leftBy P (Below w'.heap.size w') (vs k) ((execOp a.eval o).run P w')) ∧ K (a.put o.dst (vs k))) : flowH P ops (RS N w0 FR T SL Ψ) vs kd Φ Q k (o :: rest) a s := by
  obtain ⟨h1, h2⟩ := h _ fun _ h => h
  unfold flowH
  rw [if_neg (by rw [hk]; decide)]
  refine ⟨s, .inl ⟨hw, fun h' => absurd (hk.symm.trans h') (by decide), fun _ => rfl, fun _ a' w' hag hR => (h1 w' hR.1.1 fun t ht hl => hag t hl ▸ hR.2 t ht).mono fun w'' hb => RS_put (fun d hd' => ?_) (fun d hd' => ?_) (RS_below hK hN hR hb)⟩, h2⟩
  · have := List.all_eq_true.1 hd d hd'
    simpa using this
  · have := List.all_eq_true.1 hd2 d hd'
    simpa using this

theorem flowM_new {Q : Act → (Tmp → Array Value) → Prop} {k : Nat} {a : Act} {s : Tmp → Array Value} {d : Tmp} {op : Op} {ty : TypeId} {pos : String} {after : Array Edge} {rest : List Oper} (hk : kd k = 3) (hΦ : Φ k = isBox N) (hK : Keeps FR T Ψ) (hN : N ≤ w0.heap.size) (hd : SL.all (fun t => d != t) = true)
    (h1 : ∀ (a : Act) (w' : World), (execOp a.eval ⟨some d, op, ty, pos, after, none⟩).run P w' = .ok (.value (.pointer (some ⟨w'.heap.size, 0, none⟩))) (w'.alloc (.cells (s d) (T d) (0, 0))))
    (h : ∀ K : Act → Prop, (∀ a', flowH P ops (RS N w0 FR T SL Ψ) vs kd Φ Q (k + 1) rest a' s → K a') → ∀ b, N ≤ b → K (a.put (some d) (.pointer (some ⟨b, 0, none⟩)))) :
    flowH P ops (RS N w0 FR T SL Ψ) vs kd Φ Q k (⟨some d, op, ty, pos, after, none⟩ :: rest) a s := by
  have h2 := h _ fun _ h => h
  unfold flowH
  rw [if_pos hk, hΦ]
  refine ⟨⟨rfl, fun a' w' _ hR => ?_⟩, ?_⟩
  · rw [h1 a w']
    refine ⟨⟨_, Nat.le_trans hN hR.1.1.size, rfl⟩, RS_new hK hN (fun t ht hh => ?_) hR⟩
    have := List.all_eq_true.1 hd t ht
    rw [Option.some.inj hh] at this
    simp at this
  · rintro v ⟨b, hb, rfl⟩
    exact h2 b hb

/-- An operation of which one of many values comes. -/
theorem flowM_anyG {Q : Act → (Tmp → Array Value) → Prop} {k : Nat} {a : Act} {s : Tmp → Array Value} {d : Tmp} {op : Op} {ty : TypeId} {pos : String} {after : Array Edge} {gd : Option (Nat × Bool)} {rest : List Oper} (hk : kd k = 3) (hwd : Region.wanted ⟨some d, op, ty, pos, after, gd⟩ (yielded ops a.tmps) = true) (hK : Keeps FR T Ψ) (hN : N ≤ w0.heap.size) (hd : FR.all (fun t => d != t) = true)
    (h : ∀ K : Act → Prop, (∀ a', flowH P ops (RS N w0 FR T SL Ψ) vs kd Φ Q (k + 1) rest a' s → K a') →
      (∀ w', Below N w0 w' → (∀ t ∈ SL, t ∈ Oper.looksAt ops ⟨some d, op, ty, pos, after, gd⟩ → a.tmps.getD t undef = undef ∨ Ψ t (a.tmps.getD t undef) w') → newBy P (Φ k) (fun v w2 => Below w'.heap.size w' w2 ∧ Ψ d v w2) ((execOp a.eval ⟨some d, op, ty, pos, after, gd⟩).run P w')) ∧
      ∀ v, Φ k v → K (a.put (some d) v)) :
    flowH P ops (RS N w0 FR T SL Ψ) vs kd Φ Q k (⟨some d, op, ty, pos, after, gd⟩ :: rest) a s := by
  obtain ⟨h1, h2⟩ := h _ fun _ h => h
  unfold flowH
  rw [if_pos hk]
  refine ⟨⟨hwd, fun a' w' hag hR => ?_⟩, fun v hv => h2 v hv⟩
  have hrun := h1 w' hR.1.1 fun t ht hl => hag t hl ▸ hR.2 t ht
  have hd' : ∀ t ∈ FR, some d ≠ some t := fun t ht hh => by
    have := List.all_eq_true.1 hd t ht
    rw [Option.some.inj hh] at this
    simp at this
  unfold newBy at hrun ⊢
  split at hrun
  · exact ⟨hrun.1, RS_any hK hN hd' hR hrun.2.1 hrun.2.2⟩
  · refine hrun.mono ?_
    rintro e w3 ⟨u, rfl, hu, hb, hΨ⟩
    exact ⟨u, rfl, hu, RS_any hK hN hd' hR hb hΨ⟩
  · exact hrun.elim

theorem flowM_any {Q : Act → (Tmp → Array Value) → Prop} {k : Nat} {a : Act} {s : Tmp → Array Value} {d : Tmp} {op : Op} {ty : TypeId} {pos : String} {after : Array Edge} {rest : List Oper} (hk : kd k = 3) (hK : Keeps FR T Ψ) (hN : N ≤ w0.heap.size) (hd : FR.all (fun t => d != t) = true)
    (h : ∀ K : Act → Prop, (∀ a', flowH P ops (RS N w0 FR T SL Ψ) vs kd Φ Q (k + 1) rest a' s → K a') →
      (∀ w', Below N w0 w' → (∀ t ∈ SL, t ∈ Oper.looksAt ops ⟨some d, op, ty, pos, after, none⟩ → a.tmps.getD t undef = undef ∨ Ψ t (a.tmps.getD t undef) w') → newBy P (Φ k) (fun v w2 => Below w'.heap.size w' w2 ∧ Ψ d v w2) ((execOp a.eval ⟨some d, op, ty, pos, after, none⟩).run P w')) ∧
      ∀ v, Φ k v → K (a.put (some d) v)) :
    flowH P ops (RS N w0 FR T SL Ψ) vs kd Φ Q k (⟨some d, op, ty, pos, after, none⟩ :: rest) a s := by
  obtain ⟨h1, h2⟩ := h _ fun _ h => h
  unfold flowH
  rw [if_pos hk]
  refine ⟨⟨by simp [Region.wanted], fun a' w' hag hR => ?_⟩, fun v hv => h2 v hv⟩
  have hrun := h1 w' hR.1.1 fun t ht hl => hag t hl ▸ hR.2 t ht
  have hd' : ∀ t ∈ FR, some d ≠ some t := fun t ht hh => by
    have := List.all_eq_true.1 hd t ht
    rw [Option.some.inj hh] at this
    simp at this
  unfold newBy at hrun ⊢
  split at hrun
  · exact ⟨hrun.1, RS_any hK hN hd' hR hrun.2.1 hrun.2.2⟩
  · refine hrun.mono ?_
    rintro e w3 ⟨u, rfl, hu, hb, hΨ⟩
    exact ⟨u, rfl, hu, RS_any hK hN hd' hR hb hΨ⟩
  · exact hrun.elim

theorem flowM_store {Q : Act → (Tmp → Array Value) → Prop} {k : Nat} {a : Act} {s : Tmp → Array Value} {d y : Tmp} {t : TypeId} {ty : TypeId} {pos : String} {after : Array Edge} {rest : List Oper} (cs : Array Value) (b : Nat) (hk : kd k = 2) (hv : vs k = undef) (hK : Keeps FR T Ψ) (hd : d ∈ FR) (hb : a.tmps.getD d undef = .pointer (some ⟨b, 0, none⟩))
    (hy : a.tmps.getD y undef = .agg cs) (hi : (P.info? t).map (·.size) = some cs.size) (hs : (s d).size = cs.size) (h1 : cs.all (·.oneCell') = true)
    (h : flowH P ops (RS N w0 FR T SL Ψ) vs kd Φ Q (k + 1) rest (a.put none undef) (updS s d cs)) :
    flowH P ops (RS N w0 FR T SL Ψ) vs kd Φ Q k (⟨none, .store t (.tmp d) (.tmp y), ty, pos, after, none⟩ :: rest) a s := by
  unfold flowH
  rw [if_neg (by rw [hk]; decide)]
  refine ⟨updS s d cs, .inl ⟨rfl, fun h' => absurd (hk.symm.trans h') (by decide), fun h' => absurd (hk.symm.trans h') (by decide), fun _ a' w' hag hR => ?_⟩, by rw [hv]; exact h⟩
  have hb' : a'.tmps.getD d undef = .pointer (some ⟨b, 0, none⟩) := (hag d (by simp [Oper.looksAt, Op.operands])).trans hb
  have g3 := (RF_at hR.1 hd hb').2
  have hrun : (execOp a.eval ⟨none, .store t (.tmp d) (.tmp y), ty, pos, after, none⟩).run P w' = .ok .skip (w'.setRow b cs) := by
    simp only [execOp, Act.eval, hb, hy, Instr.storeAt, Instr.sureAddr, Sem.run_bind, Sem.run_pure, Result.andThen_ok, run_storeVar_row w' b (T d) t (s d) cs g3 hi hs h1]
  rw [hrun, hv]
  exact ⟨rfl, RS_store hK hR hd hb'⟩

end flow4
end Go.Proofs.Ytjdhkdmcglnihaa
