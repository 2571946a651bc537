/-
  A region whose order of evaluation is left open and that makes boxes of its own: walked once in the order of the text, the boxes' places being any. Conditions: none.
-/
import Derived.Test.YtijidnhaijdfaaaGreatDoorFlow
import Derived.Laws.Rows
import Derived.Laws.Tables
import Derived.Laws.NewBlocks
namespace Go.Proofs.YtijidnhaijdfaaaGreatDoor
open Go.RowKit

section flow2
variable {P : Program} {ops : Array Oper} {σ : Type} {R : σ → Act → World → Prop} {vs : Nat → Value} {kd : Nat → Nat} {Φ : Value → Prop}

/-- As YF, the state of what is known being of any type, and what is known speaking of the temporaries too. -/
def YG (P : Program) (ops : Array Oper) (R : σ → Act → World → Prop) (k : Nat) (o : Oper) (a : Act) (s : σ) (v : Value) (s2 : σ) : Prop :=
  (Region.wanted o (yielded ops a.tmps) = true ∧ (k = 0 → s2 = s ∧ ∀ s0 a0 w', R s0 a0 w' → (execOp a.eval o).run P w' = .ok (.value v) w') ∧ (k = 1 → s2 = s) ∧
    (k ≠ 0 → ∀ a' w', (∀ t ∈ o.looksAt ops, a'.tmps.getD t undef = a.tmps.getD t undef) → R s a' w' → leftBy P (R s2 (a'.put o.dst v)) v ((execOp a.eval o).run P w'))) ∨
  (Region.wanted o (yielded ops a.tmps) = false ∧ undef = v ∧ s2 = s)

/-- An operation that makes a box: it yields a value of Φ, whatever the frame. -/
def YN (P : Program) (R : σ → Act → World → Prop) (Φ : Value → Prop) (o : Oper) (s : σ) : Prop :=
  o.guard = none ∧ ∀ a w', R s a w' → ∃ v w2, (execOp a.eval o).run P w' = .ok (.value v) w2 ∧ Φ v ∧ R s (a.put o.dst v) w2

def stepG (P : Program) (ops : Array Oper) (R : σ → Act → World → Prop) (vs : Nat → Value) (kd : Nat → Nat) (Φ : Value → Prop) (i : Nat) (K : Act → σ → Prop) (a : Act) (s : σ) : Prop :=
  match ops[i]? with
  | none => K a s
  | some o => if kd i = 3 then YN P R Φ o s ∧ ∀ v, Φ v → K (a.put o.dst v) s else ∃ s2, YG P ops R (kd i) o a s (vs i) s2 ∧ K (a.put o.dst (vs i)) s2

def wpG (P : Program) (ops : Array Oper) (R : σ → Act → World → Prop) (vs : Nat → Value) (kd : Nat → Nat) (Φ : Value → Prop) (Q : Act → σ → Prop) : Nat → Array Bool → Act → σ → Prop
  | 0, listed, a, s => Region.ready .any ops listed = [] ∧ Q a s
  | fuel + 1, listed, a, s =>
    (Region.ready .any ops listed = [] → Q a s) ∧
    ∀ i ∈ Region.ready .any ops listed, stepG P ops R vs kd Φ i (wpG P ops R vs kd Φ Q fuel (listed.setIfInBounds i true)) a s

def flowG (P : Program) (ops : Array Oper) (R : σ → Act → World → Prop) (vs : Nat → Value) (kd : Nat → Nat) (Φ : Value → Prop) (Q : Act → σ → Prop) : Nat → List Oper → Act → σ → Prop
  | _, [], a, s => Q a s
  | k, o :: rest, a, s => if kd k = 3 then YN P R Φ o s ∧ ∀ v, Φ v → flowG P ops R vs kd Φ Q (k + 1) rest (a.put o.dst v) s
      else ∃ s2, YG P ops R (kd k) o a s (vs k) s2 ∧ flowG P ops R vs kd Φ Q (k + 1) rest (a.put o.dst (vs k)) s2

def orderG (ops : Array Oper) (kd : Nat → Nat) : Bool :=
  (List.range ops.size).all fun e => kd e == 0 || kd e == 1 || kd e == 3 || (List.range ops.size).all fun j => kd j == 0 || j == e || (decide (j < e) && waitsB ops e j) || (decide (e < j) && waitsB ops j e)

theorem orderG_spec (h : orderG ops kd = true) {e j : Nat} {oe oj : Oper} (he : ops[e]? = some oe) (hj : ops[j]? = some oj) (h0 : kd e ≠ 0) (h1 : kd e ≠ 1) (h3 : kd e ≠ 3) (h2 : kd j ≠ 0) (hne : j ≠ e) :
    waitsB ops e j = true ∨ waitsB ops j e = true := by
  have hes : e < ops.size := (Array.getElem?_eq_some_iff.1 he).1
  have hjs : j < ops.size := (Array.getElem?_eq_some_iff.1 hj).1
  have a1 := List.all_eq_true.1 h e (List.mem_range.2 hes)
  simp only [Bool.or_eq_true, beq_iff_eq, h0, h1, h3, false_or] at a1
  have a2 := List.all_eq_true.1 a1 j (List.mem_range.2 hjs)
  simp only [Bool.or_eq_true, beq_iff_eq, h2, hne, false_or, Bool.and_eq_true] at a2
  rcases a2 with a2 | a2
  · exact .inl a2.2
  · exact .inr a2.2

theorem YG_put {k : Nat} {oi : Oper} {a : Act} {s s2 : σ} {v : Value} {dst : Option Tmp} (u : Value) (hs : ∀ cs b, oi.op ≠ .select cs b) (h : ∀ d, dst = some d → d ∉ oi.looksAt ops) :
    YG P ops R k oi (a.put dst u) s v s2 ↔ YG P ops R k oi a s v s2 := by
  have e : ∀ t, t ∈ oi.looksAt ops → (a.put dst u).tmps.getD t undef = a.tmps.getD t undef := fun t ht => by
    cases dst with
    | none => rfl
    | some d =>
      have hne : d ≠ t := fun hh => h d rfl (hh ▸ ht)
      simp [Act.put, Array.getElem?_setIfInBounds_ne hne]
  have e2 : ∀ a' : Act, (∀ t ∈ oi.looksAt ops, a'.tmps.getD t undef = (a.put dst u).tmps.getD t undef) ↔ (∀ t ∈ oi.looksAt ops, a'.tmps.getD t undef = a.tmps.getD t undef) := fun a' =>
    ⟨fun hh t ht => (hh t ht).trans (e t ht), fun hh t ht => (hh t ht).trans (e t ht).symm⟩
  unfold YG
  simp only [execOp_put oi hs a dst u h, wanted_put oi a dst u h, e2]

theorem YG_zero {o : Oper} {a : Act} {s s2 s3 : σ} {v : Value} (h : YG P ops R 0 o a s v s2) : s2 = s ∧ YG P ops R 0 o a s3 v s3 := by
  rcases h with ⟨hw, h0, _, _⟩ | ⟨hw, hv, he⟩
  · exact ⟨(h0 rfl).1, .inl ⟨hw, fun _ => ⟨rfl, (h0 rfl).2⟩, fun _ => rfl, fun hk => absurd rfl hk⟩⟩
  · exact ⟨he, .inr ⟨hw, hv, rfl⟩⟩

theorem YG_one {o : Oper} {a : Act} {s s2 : σ} {v : Value} (h : YG P ops R 1 o a s v s2) : s2 = s := by
  rcases h with ⟨_, _, h1, _⟩ | ⟨_, _, he⟩
  · exact h1 rfl
  · exact he

/-- What is known of operation i when it is taken. -/
def knows (P : Program) (ops : Array Oper) (R : σ → Act → World → Prop) (vs : Nat → Value) (kd : Nat → Nat) (Φ : Value → Prop) (i : Nat) (oi : Oper) (a : Act) (s s2 : σ) : Prop :=
  if kd i = 3 then YN P R Φ oi s ∧ s2 = s else YG P ops R (kd i) oi a s (vs i) s2

theorem wpG_first {Q : Act → σ → Prop} {i : Nat} {oi : Oper} (hi : ops[i]? = some oi) (hsel : ∀ (j : Nat) (o : Oper) cs b, ops[j]? = some o → o.op ≠ .select cs b)
    (hE : orderG ops kd = true) (hΦ : ∃ v, Φ v) : ∀ (fuel : Nat) (listed : Array Bool) (a : Act) (s s2 : σ),
      (∀ j oj, ops[j]? = some oj → j ≠ i → listed.getD j true = false → (∀ e ∈ oj.after, Region.binds .any e = true → e.on ≠ i) → oi.apart ops oj = true) →
      i ∈ Region.ready .any ops listed → knows P ops R vs kd Φ i oi a s s2 →
      (if kd i = 3 then ∀ v, Φ v → wpG P ops R vs kd Φ Q fuel (listed.setIfInBounds i true) (a.put oi.dst v) s2 else wpG P ops R vs kd Φ Q fuel (listed.setIfInBounds i true) (a.put oi.dst (vs i)) s2) → wpG P ops R vs kd Φ Q (fuel + 1) listed a s := by
  obtain ⟨v0, hv0⟩ := hΦ
  intro fuel
  have here : ∀ (fuel : Nat) (listed : Array Bool) (a : Act) (s s2 : σ), knows P ops R vs kd Φ i oi a s s2 →
      (if kd i = 3 then ∀ v, Φ v → wpG P ops R vs kd Φ Q fuel (listed.setIfInBounds i true) (a.put oi.dst v) s2 else wpG P ops R vs kd Φ Q fuel (listed.setIfInBounds i true) (a.put oi.dst (vs i)) s2) →
      stepG P ops R vs kd Φ i (wpG P ops R vs kd Φ Q fuel (listed.setIfInBounds i true)) a s := by
    intro fuel listed a s s2 hy H
    unfold stepG
    unfold knows at hy
    simp only [hi]
    by_cases h3 : kd i = 3
    · rw [if_pos h3] at hy H ⊢
      obtain ⟨hy, rfl⟩ := hy
      exact ⟨hy, H⟩
    · rw [if_neg h3] at hy H ⊢
      exact ⟨s2, hy, H⟩
  induction fuel with
  | zero =>
    intro listed a s s2 _ hr hy H
    refine ⟨fun h => (by rw [h] at hr; cases hr), fun j hj => ?_⟩
    by_cases hji : j = i
    · subst hji
      exact here _ _ _ _ _ hy H
    · have hm := ready_mono hj hji
      have hn : Region.ready .any ops (listed.setIfInBounds i true) = [] := by
        by_cases h3 : kd i = 3
        · rw [if_pos h3] at H; exact (H v0 hv0).1
        · rw [if_neg h3] at H; exact H.1
      rw [hn] at hm
      cases hm
  | succ fuel ih =>
    intro listed a s s2 hfree hr hy H
    refine ⟨fun h => (by rw [h] at hr; cases hr), fun j hj => ?_⟩
    by_cases hji : j = i
    · subst hji
      exact here _ _ _ _ _ hy H
    · have hiun := (mem_ready.1 hr).1
      obtain ⟨hjun, oj, hoj, hall⟩ := mem_ready.1 hj
      have hnot : ∀ e ∈ oj.after, Region.binds .any e = true → e.on ≠ i := fun e he hb heq => by
        have h2 := hall e he hb
        rw [heq] at h2
        rcases Nat.lt_or_ge i listed.size with h' | h'
        · simp [h'] at hiun h2; rw [hiun] at h2; cases h2
        · simp [Array.getElem?_eq_none h'] at h2
      obtain ⟨p1, p2, p3⟩ := Oper.apart_spec (hfree j oj hoj hji hjun hnot)
      have hfree' : ∀ k ok, ops[k]? = some ok → k ≠ i → (listed.setIfInBounds j true).getD k true = false →
          (∀ e ∈ ok.after, Region.binds .any e = true → e.on ≠ i) → oi.apart ops ok = true := fun k ok hk hki hun hno => by
        refine hfree k ok hk hki ?_ hno
        by_cases hjk : j = k
        · subst hjk; exact hjun
        · rw [getD_set_ne true hjk] at hun; exact hun
      have hr' := ready_mono hr (Ne.symm hji)
      have hset := Array.setIfInBounds_comm (xs := listed) (i := j) (j := i) true true hji
      unfold knows at hy
      unfold stepG
      simp only [hoj]
      by_cases ki : kd i = 3
      · rw [if_pos ki] at hy H
        obtain ⟨hy, rfl⟩ := hy
        have kn : ∀ a', knows P ops R vs kd Φ i oi a' s2 s2 := fun a' => by unfold knows; rw [if_pos ki]; exact ⟨hy, rfl⟩
        have Hj := fun v hv => (H v hv).2 j (ready_mono hj hji)
        unfold stepG at Hj
        simp only [hoj] at Hj
        by_cases kj : kd j = 3
        · rw [if_pos kj]
          simp only [if_pos kj] at Hj
          refine ⟨(Hj v0 hv0).1, fun u hu => ih _ _ s2 s2 hfree' hr' (kn _) ?_⟩
          rw [if_pos ki]
          intro v hv
          have := (Hj v hv).2 u hu
          rw [← hset, Act.put_comm a v u p2] at this
          exact this
        · rw [if_neg kj]
          simp only [if_neg kj] at Hj
          have hs2 : ∀ v (hv : Φ v), (YG P ops R (kd j) oj a s2 (vs j) s2) ∧ wpG P ops R vs kd Φ Q fuel ((listed.setIfInBounds i true).setIfInBounds j true) ((a.put oi.dst v).put oj.dst (vs j)) s2 := fun v hv => by
            obtain ⟨s3, hyj, hK⟩ := Hj v hv
            rw [YG_put v (fun cs b => hsel j oj cs b hoj) p1] at hyj
            by_cases kj0 : kd j = 0
            · rw [kj0] at hyj ⊢
              obtain ⟨rfl, hyj'⟩ := YG_zero (s3 := s2) hyj
              exact ⟨hyj', hK⟩
            · by_cases kj1 : kd j = 1
              · rw [kj1] at hyj ⊢
                obtain rfl := YG_one hyj
                exact ⟨hyj, hK⟩
              · exfalso
                rcases orderG_spec hE hoj hi kj0 kj1 kj (by rw [ki]; decide) (Ne.symm hji) with h | h
                · exact not_both hiun hj h
                · exact not_both hjun hr h
          refine ⟨s2, (hs2 v0 hv0).1, ih _ _ s2 s2 hfree' hr' (kn _) ?_⟩
          rw [if_pos ki]
          intro v hv
          have := (hs2 v hv).2
          rw [← hset, Act.put_comm a v (vs j) p2] at this
          exact this
      · rw [if_neg ki] at hy H
        have kn : ∀ a' s s2, YG P ops R (kd i) oi a' s (vs i) s2 → knows P ops R vs kd Φ i oi a' s s2 := fun a' s s2 h => by unfold knows; rw [if_neg ki]; exact h
        have Hj := H.2 j (ready_mono hj hji)
        unfold stepG at Hj
        simp only [hoj] at Hj
        by_cases kj : kd j = 3
        · rw [if_pos kj] at Hj ⊢
          have hs2 : s2 = s ∨ kd i = 2 ∨ (kd i ≠ 0 ∧ kd i ≠ 1) := by
            by_cases ki0 : kd i = 0
            · rw [ki0] at hy; exact .inl (YG_zero (s3 := s) hy).1
            · by_cases ki1 : kd i = 1
              · rw [ki1] at hy; exact .inl (YG_one hy)
              · exact .inr (.inr ⟨ki0, ki1⟩)
          have no : ¬ (kd i ≠ 0 ∧ kd i ≠ 1) := fun hh => by
            rcases orderG_spec hE hi hoj hh.1 hh.2 ki (by rw [kj]; decide) hji with h | h
            · exact not_both hjun hr h
            · exact not_both hiun hj h
          have hs2' : s2 = s := by
            rcases hs2 with h | h | h
            · exact h
            · exact (no ⟨by rw [h]; decide, by rw [h]; decide⟩).elim
            · exact (no h).elim
          subst hs2'
          refine ⟨Hj.1, fun u hu => ih _ _ s2 s2 hfree' hr' (kn _ _ _ ((YG_put u (fun cs b => hsel i oi cs b hi) p3).2 hy)) ?_⟩
          rw [if_neg ki]
          have := Hj.2 u hu
          rw [← hset, Act.put_comm a (vs i) u p2] at this
          exact this
        · rw [if_neg kj] at Hj ⊢
          obtain ⟨s3, hyj, hK⟩ := Hj
          rw [YG_put (vs i) (fun cs b => hsel j oj cs b hoj) p1] at hyj
          rw [← hset, Act.put_comm a (vs i) (vs j) p2] at hK
          by_cases ki0 : kd i = 0
          · rw [ki0] at hy
            obtain ⟨rfl, _⟩ := YG_zero (s3 := s) hy
            refine ⟨s3, hyj, ih _ _ s3 s3 hfree' hr' (kn _ _ _ ?_) (by rw [if_neg ki]; exact hK)⟩
            rw [ki0]
            exact (YG_put (vs j) (fun cs b => hsel i oi cs b hi) p3).2 (YG_zero hy).2
          · by_cases kj0 : kd j = 0
            · rw [kj0] at hyj
              obtain ⟨rfl, _⟩ := YG_zero (s3 := s) hyj
              refine ⟨s, by rw [kj0]; exact (YG_zero hyj).2, ih _ _ s s3 hfree' hr' (kn _ _ _ ?_) (by rw [if_neg ki]; exact hK)⟩
              exact (YG_put (vs j) (fun cs b => hsel i oi cs b hi) p3).2 hy
            · by_cases ki1 : kd i = 1
              · by_cases kj1 : kd j = 1
                · rw [ki1] at hy
                  rw [kj1] at hyj
                  obtain rfl := YG_one hy
                  obtain rfl := YG_one hyj
                  refine ⟨s3, by rw [kj1]; exact hyj, ih _ _ s3 s3 hfree' hr' (kn _ _ _ ?_) (by rw [if_neg ki]; exact hK)⟩
                  rw [ki1]
                  exact (YG_put (vs j) (fun cs b => hsel i oi cs b hi) p3).2 hy
                · exfalso
                  rcases orderG_spec hE hoj hi kj0 kj1 kj ki0 (Ne.symm hji) with h | h
                  · exact not_both hiun hj h
                  · exact not_both hjun hr h
              · exfalso
                rcases orderG_spec hE hi hoj ki0 ki1 ki kj0 hji with h | h
                · exact not_both hjun hr h
                · exact not_both hiun hj h

theorem wpG_lex {Q : Act → σ → Prop} (hs : Region.noSelect ops = true) (hE : orderG ops kd = true) (hΦ : ∃ v, Φ v) : ∀ (l : List Oper) (k : Nat) (listed : Array Bool) (a : Act) (s : σ), (∀ j, l[j]? = ops[k + j]?) →
    Region.lexFrom .any ops l.length k listed = true → flowG P ops R vs kd Φ Q k l a s → wpG P ops R vs kd Φ Q l.length listed a s
  | [], _, _, _, _, _, hB, h => ⟨by simpa [Region.lexFrom] using hB, h⟩
  | o :: l, k, listed, a, s, hl, hB, h => by
    have h0 : ops[k]? = some o := by simpa using (hl 0).symm
    simp only [List.length_cons, Region.lexFrom, Bool.and_eq_true] at hB
    obtain ⟨⟨hr, hf⟩, hB'⟩ := hB
    have hl' : ∀ j, l[j]? = ops[k + 1 + j]? := fun j => by have := hl (j + 1); simpa [Nat.add_assoc, Nat.add_comm 1 j] using this
    unfold flowG at h
    by_cases h3 : kd k = 3
    · rw [if_pos h3] at h
      refine wpG_first h0 (Region.noSelect_spec hs) hE hΦ l.length listed a s s (Region.free_spec h0 hf) (by simpa using hr) (by unfold knows; rw [if_pos h3]; exact ⟨h.1, rfl⟩) ?_
      rw [if_pos h3]
      exact fun v hv => wpG_lex hs hE hΦ l (k + 1) _ _ s hl' hB' (h.2 v hv)
    · rw [if_neg h3] at h
      obtain ⟨s2, hy, hK⟩ := h
      refine wpG_first h0 (Region.noSelect_spec hs) hE hΦ l.length listed a s s2 (Region.free_spec h0 hf) (by simpa using hr) (by unfold knows; rw [if_neg h3]; exact hy) ?_
      rw [if_neg h3]
      exact wpG_lex hs hE hΦ l (k + 1) _ _ s2 hl' hB' hK

theorem wpAnyIn_of_wpG {r : Option Nat} {n : Nat} {Q : Act → σ → Prop} {Q' : Exit → Act → World → Prop} (hd : noDeferB ops = true) (hput : ∀ i o, ops[i]? = some o → kd i ≠ 3 → ∀ s a w v, R s a w → R s (a.put o.dst v) w)
    (hQ : ∀ a s, Q a s → ∀ w', R s a w' → Q' .normal a w') :
    ∀ (fuel : Nat) (listed : Array Bool) (a : Act) (s : σ), wpG P ops R vs kd Φ Q fuel listed a s → ∀ w', R s a w' → wpAnyIn (FW r) n P .any ops Q' fuel listed a w'
  | 0, _, a, s, h, w', hw => ⟨h.1, hQ a s h.2 w' hw⟩
  | fuel + 1, listed, a, s, h, w', hw => by
    refine ⟨fun h0 => hQ a s (h.1 h0) w' hw, fun i hi => ?_⟩
    have hs := h.2 i hi
    have ih := fun a2 s2 hk => wpAnyIn_of_wpG (r := r) (n := n) hd hput hQ fuel (listed.setIfInBounds i true) a2 s2 hk
    unfold stepG at hs
    unfold wpOpIn
    cases ho : ops[i]? with
    | none =>
      simp only [ho] at hs ⊢
      exact ih _ _ hs _ hw
    | some o =>
      simp only [ho] at hs ⊢
      have hsem : Oper.semAt (FW r).round a.eval o = execOp a.eval o := Oper.semAt_eq _ _ _ fun c => noDefer_spec hd i o c ho
      by_cases h3 : kd i = 3
      · rw [if_pos h3] at hs
        obtain ⟨⟨hg, hy⟩, hK⟩ := hs
        rw [if_pos (by simp [Region.wanted, hg])]
        refine ⟨about_FW _ _ _ _, ?_⟩
        obtain ⟨v, w2, hrun, hv, hR⟩ := hy a w' hw
        rw [hsem, hrun]
        exact ih _ _ (hK v hv) _ hR
      · rw [if_neg h3] at hs
        obtain ⟨s2, hy, hK⟩ := hs
        rcases hy with ⟨hwd, h0, _, h1⟩ | ⟨hwd, hv, he⟩
        · rw [if_pos hwd]
          refine ⟨about_FW _ _ _ _, ?_⟩
          rw [hsem]
          by_cases hk : kd i = 0
          · obtain ⟨rfl, h2⟩ := h0 hk
            rw [h2 _ _ w' hw]
            exact ih _ _ hK _ (hput i o ho h3 _ _ _ _ hw)
          · have h2 := h1 hk a w' (fun _ _ => rfl) hw
            generalize hv : vs i = v at *
            unfold leftBy at h2
            split at h2
            · rename_i u w'' heq
              rw [heq]
              obtain ⟨rfl, h3⟩ := h2
              exact ih _ _ hK _ h3
            · rename_i w'' heq
              rw [heq]
              obtain ⟨rfl, h3⟩ := h2
              exact ih _ _ hK _ h3
            · rename_i f args w'' heq
              rw [heq]
              refine ⟨fun h => by simp [FW] at h, callsIn_FW (h2.mono ?_)⟩
              rintro e w3 ⟨rfl, h3⟩
              exact ih _ _ hK _ h3
            · exact h2.elim
        · rw [if_neg (by simp [hwd])]
          subst he
          rw [← hv] at hK
          exact ⟨about_FW _ _ _ _, ih _ _ hK _ (hput i o ho h3 _ _ _ _ hw)⟩

theorem wpIn_flowG {r : Option Nat} {n id : Nat} {Q : Exit → Act → World → Prop} {a : Act} {w : World} {l : List Oper} (kd : Nat → Nat) (R : σ → Act → World → Prop) (Φ : Value → Prop) (vs : Nat → Value) (s : σ) (h0 : R s a w.drew) (hm : P.follows .mixedOrders = true)
    (hB : (Region.lexB .any l.toArray && orderG l.toArray kd && noDeferB l.toArray) = true) (hΦ : ∃ v, Φ v) (hput : ∀ i o, l.toArray[i]? = some o → kd i ≠ 3 → ∀ s a w v, R s a w → R s (a.put o.dst v) w)
    (h : flowG P l.toArray R vs kd Φ (fun a' s2 => ∀ w', R s2 a' w' → Q .normal a' w') 0 l a s) : (Code.region id l.toArray true).wpIn (FW r) n P Q a w := by
  simp only [Bool.and_eq_true] at hB
  obtain ⟨⟨hB, hE⟩, hd⟩ := hB
  simp only [Region.lexB, Bool.and_eq_true] at hB
  refine wpIn_region_any hm ?_
  have H := wpG_lex (P := P) (R := R) (kd := kd) (vs := vs) hB.1 hE hΦ l 0 (Array.replicate l.toArray.size false) a s (by simp) (by simpa using hB.2) h
  have := wpAnyIn_of_wpG (r := r) (n := n) (Q' := Q) hd hput (fun a' w2 hq w' hw => hq w' hw) _ _ _ _ H w.drew h0
  simpa using this

theorem wp_flowG {id : Nat} {Q : Exit → Act → World → Prop} {a : Act} {w : World} {l : List Oper} (kd : Nat → Nat) (R : σ → Act → World → Prop) (Φ : Value → Prop) (vs : Nat → Value) (s : σ) (h0 : R s a w.drew) (hm : P.follows .mixedOrders = true)
    (hB : (Region.lexB .any l.toArray && orderG l.toArray kd && noDeferB l.toArray) = true) (hΦ : ∃ v, Φ v) (hput : ∀ i o, l.toArray[i]? = some o → kd i ≠ 3 → ∀ s a w v, R s a w → R s (a.put o.dst v) w)
    (h : flowG P l.toArray R vs kd Φ (fun a' s2 => ∀ w', R s2 a' w' → Q .normal a' w') 0 l a s) : (Code.region id l.toArray true).wp P Q a w :=
  wpIn_wide.1 (show (Code.region id l.toArray true).wpIn Fence.wide 0 P Q a w from wpIn_flowG (r := none) kd R Φ vs s h0 hm hB hΦ hput h)

/-! ### Boxes that are filled at the end -/

/-- Below N the world is as w0; each temporary of FR holds nothing yet, or leads to a box of its own, which holds what s says. -/
def RF (N : Nat) (w0 : World) (FR : List Tmp) (T : Tmp → TypeId) (s : Tmp → Array Value) (a : Act) (w' : World) : Prop :=
  Below N w0 w' ∧ ∀ d ∈ FR, a.tmps.getD d undef = undef ∨ ∃ b, a.tmps.getD d undef = .pointer (some ⟨b, 0, none⟩) ∧ N ≤ b ∧ w'.heap[b]? = some (.cells (s d) (T d) (0, 0)) ∧
    ∀ d' ∈ FR, d' ≠ d → a.tmps.getD d' undef ≠ .pointer (some ⟨b, 0, none⟩)

variable {N : Nat} {w0 : World} {FR : List Tmp} {T : Tmp → TypeId}

theorem RF_start {s : Tmp → Array Value} {a : Act} {w : World} (h : ∀ d ∈ FR, a.tmps.getD d undef = undef) : RF N w FR T s a w.drew :=
  ⟨Below.drew (Below.refl _ _), fun d hd => .inl (h d hd)⟩

theorem getD_put_ne {a : Act} {dst : Option Tmp} {v : Value} {d : Tmp} (h : dst ≠ some d) : (a.put dst v).tmps.getD d undef = a.tmps.getD d undef := by
  cases dst with
  | none => rfl
  | some t =>
    have hne : t ≠ d := fun hh => h (by rw [hh])
    simp [Act.put, Array.getElem?_setIfInBounds_ne hne]

theorem RF_put {s : Tmp → Array Value} {a : Act} {w : World} {dst : Option Tmp} {v : Value} (hd : ∀ d ∈ FR, dst ≠ some d) (h : RF N w0 FR T s a w) : RF N w0 FR T s (a.put dst v) w := by
  refine ⟨h.1, fun d hdm => ?_⟩
  rw [getD_put_ne (hd d hdm)]
  rcases h.2 d hdm with h1 | ⟨b, h1, h2, h3, h4⟩
  · exact .inl h1
  · exact .inr ⟨b, h1, h2, h3, fun d' hd' hne => by rw [getD_put_ne (hd d' hd')]; exact h4 d' hd' hne⟩

theorem lt_of_some {w : World} {b : Nat} {o : Obj} (h : w.heap[b]? = some o) : b < w.heap.size := (Array.getElem?_eq_some_iff.1 h).1

theorem RF_below {s : Tmp → Array Value} {a : Act} {w w' : World} (hN : N ≤ w0.heap.size) (h : RF N w0 FR T s a w) (hb : Below w.heap.size w w') : RF N w0 FR T s a w' := by
  refine ⟨h.1.trans (hb.mono (Nat.le_trans hN h.1.size)), fun d hd => ?_⟩
  rcases h.2 d hd with h1 | ⟨b, h1, h2, h3, h4⟩
  · exact .inl h1
  · exact .inr ⟨b, h1, h2, (hb.block b (lt_of_some h3)).trans h3, h4⟩

theorem getD_put_eq {a : Act} {d : Tmp} {v : Value} : (a.put (some d) v).tmps.getD d undef = v ∨ (a.put (some d) v).tmps.getD d undef = undef := by
  by_cases h : d < a.tmps.size
  · exact .inl (by simp [Act.put, h])
  · exact .inr (by simp [Act.put, h])

theorem RF_new {s : Tmp → Array Value} {a : Act} {w : World} {d : Tmp} (hN : N ≤ w0.heap.size) (h : RF N w0 FR T s a w) :
    RF N w0 FR T s (a.put (some d) (.pointer (some ⟨w.heap.size, 0, none⟩))) (w.alloc (.cells (s d) (T d) (0, 0))) := by
  have hb : Below w.heap.size w (w.alloc (.cells (s d) (T d) (0, 0))) := (Below.refl _ _).alloc (Nat.le_refl _) _
  have h' := RF_below hN h hb
  refine ⟨h'.1, fun d1 hd1 => ?_⟩
  by_cases hd : d1 = d
  · subst hd
    rcases getD_put_eq (a := a) (d := d1) (v := .pointer (some ⟨w.heap.size, 0, none⟩)) with e | e
    · refine .inr ⟨w.heap.size, e, Nat.le_trans hN h.1.size, heap_alloc_new _ _, fun d' hd' hne => ?_⟩
      rw [getD_put_ne (by intro hh; exact hne (Option.some.inj hh).symm)]
      rcases h.2 d' hd' with h1 | ⟨b, h1, _, h3, _⟩
      · rw [h1]; intro hh; cases hh
      · rw [h1]
        intro hh
        have : b = w.heap.size := by injection hh with hh; injection hh with hh; injection hh
        have := lt_of_some h3
        omega
    · exact .inl e
  · rw [getD_put_ne (by intro hh; exact hd (Option.some.inj hh).symm)]
    rcases h'.2 d1 hd1 with h1 | ⟨b, h1, h2, h3, h4⟩
    · exact .inl h1
    · refine .inr ⟨b, h1, h2, h3, fun d' hd' hne => ?_⟩
      by_cases hdd : d' = d
      · subst hdd
        rcases getD_put_eq (a := a) (d := d') (v := .pointer (some ⟨w.heap.size, 0, none⟩)) with e | e
        · rw [e]
          rcases h.2 d1 hd1 with g1 | ⟨b', g1, _, g3, _⟩
          · rw [g1] at h1; cases h1
          · rw [g1] at h1
            have hbb : b' = b := by injection h1 with hh; injection hh with hh; injection hh
            intro hh
            have : w.heap.size = b := by injection hh with hh; injection hh with hh; injection hh
            have := lt_of_some g3
            omega
        · rw [e]; intro hh; cases hh
      · rw [getD_put_ne (by intro hh; exact hdd (Option.some.inj hh).symm)]
        exact h4 d' hd' hne

theorem heap_setRow_other (w : World) (g k : Nat) (cs : Array Value) (h : k ≠ g) : (w.setRow g cs).heap[k]? = w.heap[k]? := by
  simp only [World.setRow, Array.getElem?_modify]
  rw [if_neg (by omega)]

theorem heap_setRow_same (w : World) (g : Nat) (cs old : Array Value) (t : TypeId) (fr : Nat × Nat) (h : w.heap[g]? = some (.cells old t fr)) : (w.setRow g cs).heap[g]? = some (.cells cs t fr) := by
  simp only [World.setRow, Array.getElem?_modify, h]
  rfl

/-- s, but at d. -/
def updS (s : Tmp → Array Value) (d : Tmp) (cs : Array Value) : Tmp → Array Value := fun t => if t = d then cs else s t

theorem RF_store {s : Tmp → Array Value} {a : Act} {w : World} {d : Tmp} {b : Nat} {cs : Array Value} (h : RF N w0 FR T s a w) (hd : d ∈ FR) (hb : a.tmps.getD d undef = .pointer (some ⟨b, 0, none⟩)) :
    RF N w0 FR T (updS s d cs) a (w.setRow b cs) := by
  rcases h.2 d hd with h1 | ⟨b', h1, h2, h3, h4⟩
  · rw [hb] at h1; cases h1
  · rw [hb] at h1
    have hbb : b = b' := by injection h1 with hh; injection hh with hh; injection hh
    subst hbb
    refine ⟨⟨h.1.os, h.1.tape, h.1.output, by simpa using h.1.size, fun k hk => ?_⟩, fun d1 hd1 => ?_⟩
    · rw [heap_setRow_other _ _ _ _ (by omega)]
      exact h.1.block k hk
    · by_cases hdd : d1 = d
      · subst hdd
        exact .inr ⟨b, hb, h2, by rw [heap_setRow_same _ _ _ _ _ _ h3]; simp [updS], h4⟩
      · rcases h.2 d1 hd1 with g1 | ⟨b1, g1, g2, g3, g4⟩
        · exact .inl g1
        · have hne : b1 ≠ b := fun hh => g4 d hd (fun h => hdd h.symm) (by rw [hb, hh])
          exact .inr ⟨b1, g1, g2, by rw [heap_setRow_other _ _ _ _ hne, g3]; simp [updS, hdd], g4⟩

/-- Each operation that is no new box writes no temporary of FR. -/
def freshB (ops : Array Oper) (kd : Nat → Nat) (FR : List Tmp) : Bool := (List.range ops.size).all fun i => kd i == 3 || match ops[i]? with
  | some o => FR.all fun d => o.dst != some d
  | none => true

theorem freshB_spec {kd : Nat → Nat} (h : freshB ops kd FR = true) {i : Nat} {o : Oper} (hi : ops[i]? = some o) (h3 : kd i ≠ 3) : ∀ d ∈ FR, o.dst ≠ some d := by
  intro d hd
  have h1 := List.all_eq_true.1 h i (List.mem_range.2 (Array.getElem?_eq_some_iff.1 hi).1)
  simp only [Bool.or_eq_true, beq_iff_eq, h3, false_or, hi] at h1
  have := List.all_eq_true.1 h1 d hd
  simpa using this

def isBox (N : Nat) (v : Value) : Prop := ∃ b, N ≤ b ∧ v = .pointer (some ⟨b, 0, none⟩)

theorem wp_flowN {id : Nat} {Q : Exit → Act → World → Prop} {a : Act} {w : World} {l : List Oper} (kd : Nat → Nat) (FR : List Tmp) (T : Tmp → TypeId) (vs : Nat → Value) (s : Tmp → Array Value) (N : Nat) (h0 : ∀ d ∈ FR, a.tmps.getD d undef = undef) (hm : P.follows .mixedOrders = true)
    (hB : (Region.lexB .any l.toArray && orderG l.toArray kd && noDeferB l.toArray && freshB l.toArray kd FR) = true)
    (h : flowG P l.toArray (RF N w FR T) vs kd (isBox N) (fun a' s2 => ∀ w', RF N w FR T s2 a' w' → Q .normal a' w') 0 l a s) : (Code.region id l.toArray true).wp P Q a w := by
  rw [Bool.and_eq_true] at hB
  exact wp_flowG kd (RF N w FR T) (isBox N) vs s (RF_start h0) hm hB.1 ⟨_, N, Nat.le_refl _, rfl⟩ (fun i o hi h3 s a w v hR => RF_put (freshB_spec hB.2 hi h3) hR) h

theorem wpIn_flowN {r : Option Nat} {n id : Nat} {Q : Exit → Act → World → Prop} {a : Act} {w : World} {l : List Oper} (kd : Nat → Nat) (FR : List Tmp) (T : Tmp → TypeId) (vs : Nat → Value) (s : Tmp → Array Value) (N : Nat) (h0 : ∀ d ∈ FR, a.tmps.getD d undef = undef) (hm : P.follows .mixedOrders = true)
    (hB : (Region.lexB .any l.toArray && orderG l.toArray kd && noDeferB l.toArray && freshB l.toArray kd FR) = true)
    (h : flowG P l.toArray (RF N w FR T) vs kd (isBox N) (fun a' s2 => ∀ w', RF N w FR T s2 a' w' → Q .normal a' w') 0 l a s) : (Code.region id l.toArray true).wpIn (FW r) n P Q a w := by
  rw [Bool.and_eq_true] at hB
  exact wpIn_flowG kd (RF N w FR T) (isBox N) vs s (RF_start h0) hm hB.1 ⟨_, N, Nat.le_refl _, rfl⟩ (fun i o hi h3 s a w v hR => RF_put (freshB_spec hB.2 hi h3) hR) h

theorem flowN_nil {Q : Act → (Tmp → Array Value) → Prop} {k : Nat} {a : Act} {s : Tmp → Array Value} (h : Q a s) : flowG P ops (RF N w0 FR T) vs kd (isBox N) Q k [] a s := h

theorem flowN_late {Q : Act → (Tmp → Array Value) → Prop} {k : Nat} {a : Act} {s : Tmp → Array Value} {o : Oper} {rest : List Oper} (hk : kd k = 0) (hw : Region.wanted o (yielded ops a.tmps) = true)
    (h : ∀ K : Act → Prop, (∀ a', flowG P ops (RF N w0 FR T) vs kd (isBox N) Q (k + 1) rest a' s → K a') → (∀ w', Below N w0 w' → (execOp a.eval o).run P w' = .ok (.value (vs k)) w') ∧ K (a.put o.dst (vs k))) : flowG P ops (RF N w0 FR T) vs kd (isBox N) Q k (o :: rest) a s := by
  obtain ⟨h1, h2⟩ := h _ fun _ h => h
  unfold flowG
  rw [if_neg (by rw [hk]; decide)]
  exact ⟨s, .inl ⟨hw, fun _ => ⟨rfl, fun _ _ w' hR => h1 w' hR.1⟩, fun _ => rfl, fun h' => absurd hk h'⟩, h2⟩

theorem flowN_quiet {Q : Act → (Tmp → Array Value) → Prop} {k : Nat} {a : Act} {s : Tmp → Array Value} {o : Oper} {rest : List Oper} (hk : kd k = 1) (hN : N ≤ w0.heap.size) (hd : FR.all (fun d => o.dst != some d) = true) (hw : Region.wanted o (yielded ops a.tmps) = true)
    (h : ∀ K : Act → Prop, (∀ a', flowG P ops (RF N w0 FR T) vs kd (isBox N) Q (k + 1) rest a' s → K a') →
      (∀ w', Below N w0 w' → leftBy P (Below w'.heap.size w') (vs k) ((execOp a.eval o).run P w')) ∧ K (a.put o.dst (vs k))) : flowG P ops (RF N w0 FR T) vs kd (isBox N) Q k (o :: rest) a s := by
  obtain ⟨h1, h2⟩ := h _ fun _ h => h
  unfold flowG
  rw [if_neg (by rw [hk]; decide)]
  refine ⟨s, .inl ⟨hw, fun h' => absurd (hk.symm.trans h') (by decide), fun _ => rfl, fun _ a' w' _ hR => (h1 w' hR.1).mono fun w'' hb => RF_put (fun d hd' => ?_) (RF_below hN hR hb)⟩, h2⟩
  have := List.all_eq_true.1 hd d hd'
  simpa using this

theorem flowN_new {Q : Act → (Tmp → Array Value) → Prop} {k : Nat} {a : Act} {s : Tmp → Array Value} {d : Tmp} {op : Op} {ty : TypeId} {pos : String} {after : Array Edge} {rest : List Oper} (hk : kd k = 3) (hN : N ≤ w0.heap.size)
    (h1 : ∀ (a : Act) (w' : World), (execOp a.eval ⟨some d, op, ty, pos, after, none⟩).run P w' = .ok (.value (.pointer (some ⟨w'.heap.size, 0, none⟩))) (w'.alloc (.cells (s d) (T d) (0, 0))))
    (h : ∀ K : Act → Prop, (∀ a', flowG P ops (RF N w0 FR T) vs kd (isBox N) Q (k + 1) rest a' s → K a') → ∀ b, N ≤ b → K (a.put (some d) (.pointer (some ⟨b, 0, none⟩)))) :
    flowG P ops (RF N w0 FR T) vs kd (isBox N) Q k (⟨some d, op, ty, pos, after, none⟩ :: rest) a s := by
  have h2 := h _ fun _ h => h
  unfold flowG
  rw [if_pos hk]
  refine ⟨⟨rfl, fun a w' hR => ⟨_, _, h1 a w', ⟨_, Nat.le_trans hN hR.1.size, rfl⟩, RF_new hN hR⟩⟩, ?_⟩
  rintro v ⟨b, hb, rfl⟩
  exact h2 b hb

theorem flowN_store {Q : Act → (Tmp → Array Value) → Prop} {k : Nat} {a : Act} {s : Tmp → Array Value} {d y : Tmp} {t : TypeId} {ty : TypeId} {pos : String} {after : Array Edge} {rest : List Oper} (cs : Array Value) (b : Nat) (hk : kd k = 2) (hv : vs k = undef) (hd : d ∈ FR) (hb : a.tmps.getD d undef = .pointer (some ⟨b, 0, none⟩))
    (hy : a.tmps.getD y undef = .agg cs) (hi : (P.info? t).map (·.size) = some cs.size) (hs : (s d).size = cs.size) (h1 : cs.all (·.oneCell') = true)
    (h : flowG P ops (RF N w0 FR T) vs kd (isBox N) Q (k + 1) rest (a.put none undef) (updS s d cs)) :
    flowG P ops (RF N w0 FR T) vs kd (isBox N) Q k (⟨none, .store t (.tmp d) (.tmp y), ty, pos, after, none⟩ :: rest) a s := by
  unfold flowG
  rw [if_neg (by rw [hk]; decide)]
  refine ⟨updS s d cs, .inl ⟨rfl, fun h' => absurd (hk.symm.trans h') (by decide), fun h' => absurd (hk.symm.trans h') (by decide), fun _ a' w' hag hR => ?_⟩, by rw [hv]; exact h⟩
  have hb' : a'.tmps.getD d undef = .pointer (some ⟨b, 0, none⟩) := (hag d (by simp [Oper.looksAt, Op.operands])).trans hb
  rcases hR.2 d hd with g | ⟨b', g1, _, g3, _⟩
  · rw [hb'] at g; cases g
  · rw [hb'] at g1
    have hbb : b = b' := by injection g1 with hh; injection hh with hh; injection hh
    subst hbb
    have hrun : (execOp a.eval ⟨none, .store t (.tmp d) (.tmp y), ty, pos, after, none⟩).run P w' = .ok .skip (w'.setRow b cs) := by
      simp only [execOp, Act.eval, hb, hy, Instr.storeAt, Instr.sureAddr, Sem.run_bind, Sem.run_pure, Result.andThen_ok, run_storeVar_row w' b (T d) t (s d) cs g3 hi hs h1]
    rw [hrun, hv]
    exact ⟨rfl, RF_store hR hd hb'⟩

theorem RF_at {s : Tmp → Array Value} {a : Act} {w : World} {d : Tmp} {b : Nat} (h : RF N w0 FR T s a w) (hd : d ∈ FR) (hb : a.tmps.getD d undef = .pointer (some ⟨b, 0, none⟩)) : N ≤ b ∧ w.heap[b]? = some (.cells (s d) (T d) (0, 0)) := by
  rcases h.2 d hd with h1 | ⟨b', h1, h2, h3, _⟩
  · rw [hb] at h1; cases h1
  · rw [hb] at h1
    have hbb : b = b' := by injection h1 with hh; injection hh with hh; injection hh
    subst hbb
    exact ⟨h2, h3⟩

theorem RF_ne {s : Tmp → Array Value} {a : Act} {w : World} {d d' : Tmp} {b b' : Nat} (h : RF N w0 FR T s a w) (hd : d ∈ FR) (hd' : d' ∈ FR) (hne : d' ≠ d) (hb : a.tmps.getD d undef = .pointer (some ⟨b, 0, none⟩)) (hb' : a.tmps.getD d' undef = .pointer (some ⟨b', 0, none⟩)) : b' ≠ b := by
  rcases h.2 d hd with h1 | ⟨b1, h1, _, _, h4⟩
  · rw [hb] at h1; cases h1
  · rw [hb] at h1
    have hbb : b = b1 := by injection h1 with hh; injection hh with hh; injection hh
    subst hbb
    intro e
    exact h4 d' hd' hne (by rw [hb', e])

end flow2
end Go.Proofs.YtijidnhaijdfaaaGreatDoor
