/-
  A region whose order of evaluation is left open, walked once in the order of the text: a theorem over any program. Conditions: none.
-/
import Derived.Deep.Quiet
import Derived.Deep.QuietTactic
import Derived.OrdersIn
import Derived.TacticsInMore
import Derived.RangeFuncCalls
import Derived.Below
namespace Go.Proofs.YtijidnhaijdfaaaGreatDoor
open Go.RowKit

section flow
variable {P : Program} {ops : Array Oper} {R : World → World → Prop}

/-- The fence that lets everything in; 'r': within the round of a range over a function, or not. -/
def FW (r : Option Nat) : Fence := { fn := fun _ => True, depth := none, alive := false, round := r }

theorem FW_round (r : Option Nat) : (FW r).round = r := rfl
theorem FW_depth (r : Option Nat) : (FW r).depth = none := rfl
theorem FW_alive (r : Option Nat) : (FW r).alive = false := rfl
theorem FW_fn (r : Option Nat) (f : FuncId) : (FW r).fn f = True := rfl
theorem FW_inRound (r : Option Nat) (l : Nat) : (FW r).inRound l = FW (some l) := rfl
attribute [go_sem] FW_round FW_depth FW_alive FW_fn FW_inRound

theorem callsIn_FW {r : Option Nat} {n : Nat} {f : FuncId} {args : Array Value} {w : World} {S : Ending → World → Prop} (h : Calls P f args w S) : CallsIn (FW r) n P f args w S := by
  have h2 : CallsIn Fence.wide n P f args w S := callsIn_wide.2 h
  exact h2

theorem calls_FW {n : Nat} {f : FuncId} {args : Array Value} {w : World} {S : Ending → World → Prop} (h : CallsIn (FW none) n P f args w S) : Calls P f args w S :=
  callsIn_wide.1 (show CallsIn Fence.wide n P f args w S from h)

/-- What an operation has left: the value v, and a world of C. -/
def leftBy (P : Program) (C : World → Prop) (v : Value) : Result Next → Prop
  | .ok (.value u) w => u = v ∧ C w
  | .ok .skip w => undef = v ∧ C w
  | .ok (.enter f args) w => Calls P f args w (fun e w' => e = .returned v ∧ C w')
  | _ => False

theorem leftBy.mono {C C' : World → Prop} {v : Value} {r : Result Next} (h : leftBy P C v r) (hC : ∀ w, C w → C' w) : leftBy P C' v r := by
  unfold leftBy at *
  split at h
  · exact ⟨h.1, hC _ h.2⟩
  · exact ⟨h.1, hC _ h.2⟩
  · exact h.mono fun _ _ hh => ⟨hh.1, hC _ hh.2⟩
  · exact h

/-- Kind 0: the operation yields v in every world that R lets stand for any other. Kind 1: it yields v in every world that R lets stand for w, and leaves such a one. Any other kind: it leaves a world that R lets stand for w2. -/
def YF (P : Program) (ops : Array Oper) (R : World → World → Prop) (k : Nat) (o : Oper) (a : Act) (w : World) (v : Value) (w2 : World) : Prop :=
  (Region.wanted o (yielded ops a.tmps) = true ∧ (k = 0 → w2 = w ∧ ∀ w0 w', R w0 w' → (execOp a.eval o).run P w' = .ok (.value v) w') ∧ (k = 1 → w2 = w) ∧
    (k ≠ 0 → ∀ w', R w w' → leftBy P (R w2) v ((execOp a.eval o).run P w'))) ∨
  (Region.wanted o (yielded ops a.tmps) = false ∧ undef = v ∧ w2 = w)

def stepF (P : Program) (ops : Array Oper) (R : World → World → Prop) (kd : Nat → Nat) (i : Nat) (K : Act → World → Prop) (a : Act) (w : World) : Prop :=
  match ops[i]? with
  | none => K a w
  | some o => ∃ v w2, YF P ops R (kd i) o a w v w2 ∧ K (a.put o.dst v) w2

def wpF (P : Program) (ops : Array Oper) (R : World → World → Prop) (kd : Nat → Nat) (Q : Act → World → Prop) : Nat → Array Bool → Act → World → Prop
  | 0, listed, a, w => Region.ready .any ops listed = [] ∧ Q a w
  | fuel + 1, listed, a, w =>
    (Region.ready .any ops listed = [] → Q a w) ∧
    ∀ i ∈ Region.ready .any ops listed, stepF P ops R kd i (wpF P ops R kd Q fuel (listed.setIfInBounds i true)) a w

def flow (P : Program) (ops : Array Oper) (R : World → World → Prop) (kd : Nat → Nat) (Q : Act → World → Prop) : Nat → List Oper → Act → World → Prop
  | _, [], a, w => Q a w
  | k, o :: rest, a, w => ∃ v w2, YF P ops R (kd k) o a w v w2 ∧ flow P ops R kd Q (k + 1) rest (a.put o.dst v) w2

def waitsB (ops : Array Oper) (j i : Nat) : Bool :=
  match ops[j]? with
  | some oj => oj.after.any fun e => Region.binds .any e && e.on == i
  | none => false

theorem waitsB_spec {j i : Nat} (h : waitsB ops j i = true) : ∃ oj, ops[j]? = some oj ∧ ∃ e ∈ oj.after, Region.binds .any e = true ∧ e.on = i := by
  unfold waitsB at h
  split at h
  · rename_i oj hj
    obtain ⟨e, he, hb⟩ := Array.any_eq_true'.1 h
    simp only [Bool.and_eq_true, beq_iff_eq] at hb
    exact ⟨oj, hj, e, he, hb.1, hb.2⟩
  · cases h

/-- Of two operations one of which has an effect, and neither of which is of kind 0, the later waits for the earlier. -/
def orderB (ops : Array Oper) (kd : Nat → Nat) : Bool :=
  (List.range ops.size).all fun e => kd e == 0 || kd e == 1 || (List.range ops.size).all fun j => kd j == 0 || j == e || (decide (j < e) && waitsB ops e j) || (decide (e < j) && waitsB ops j e)

def noDeferB (ops : Array Oper) : Bool := ops.all fun o => match o.op with | .defer _ => false | _ => true

theorem noDefer_spec (h : noDeferB ops = true) (j : Nat) (o : Oper) (c : Call) (ho : ops[j]? = some o) : o.op ≠ .defer c := by
  intro heq
  have := Array.all_eq_true_iff_forall_mem.1 h o (Array.mem_of_getElem? ho)
  simp [heq] at this

theorem orderB_spec {kd : Nat → Nat} (h : orderB ops kd = true) {e j : Nat} {oe oj : Oper} (he : ops[e]? = some oe) (hj' : ops[j]? = some oj) (h0 : kd e ≠ 0) (h1 : kd e ≠ 1) (h2 : kd j ≠ 0) (hne : j ≠ e) :
    waitsB ops e j = true ∨ waitsB ops j e = true := by
  have hes : e < ops.size := (Array.getElem?_eq_some_iff.1 he).1
  have hjs : j < ops.size := (Array.getElem?_eq_some_iff.1 hj').1
  have a1 := List.all_eq_true.1 h e (List.mem_range.2 hes)
  simp only [Bool.or_eq_true, beq_iff_eq, h0, h1, false_or] at a1
  have a2 := List.all_eq_true.1 a1 j (List.mem_range.2 hjs)
  simp only [Bool.or_eq_true, beq_iff_eq, h2, hne, false_or, Bool.and_eq_true] at a2
  rcases a2 with a2 | a2
  · exact .inl a2.2
  · exact .inr a2.2

theorem YF_put {k : Nat} {oi : Oper} {a : Act} {w w2 : World} {v : Value} {dst : Option Tmp} (u : Value) (hs : ∀ cs b, oi.op ≠ .select cs b) (h : ∀ d, dst = some d → d ∉ oi.looksAt ops) :
    YF P ops R k oi (a.put dst u) w v w2 ↔ YF P ops R k oi a w v w2 := by
  unfold YF
  rw [execOp_put oi hs a dst u h, wanted_put oi a dst u h]

theorem YF_zero {o : Oper} {a : Act} {w w2 w3 : World} {v : Value} (h : YF P ops R 0 o a w v w2) : w2 = w ∧ YF P ops R 0 o a w3 v w3 := by
  rcases h with ⟨hw, h0, _, _⟩ | ⟨hw, hv, he⟩
  · exact ⟨(h0 rfl).1, .inl ⟨hw, fun _ => ⟨rfl, (h0 rfl).2⟩, fun _ => rfl, fun hk => absurd rfl hk⟩⟩
  · exact ⟨he, .inr ⟨hw, hv, rfl⟩⟩

theorem YF_one {o : Oper} {a : Act} {w w2 : World} {v : Value} (h : YF P ops R 1 o a w v w2) : w2 = w := by
  rcases h with ⟨_, _, h1, _⟩ | ⟨_, _, he⟩
  · exact h1 rfl
  · exact he

theorem not_both {listed : Array Bool} {i j : Nat} (hi : listed.getD i true = false) (hr : j ∈ Region.ready .any ops listed) (hw : waitsB ops j i = true) : False := by
  obtain ⟨o', ho', e, he, hb, hon⟩ := waitsB_spec hw
  obtain ⟨_, o'', ho'', hall⟩ := mem_ready.1 hr
  have : o' = o'' := Option.some.inj (ho'.symm.trans ho'')
  subst this
  have h2 := hall e he hb
  rw [hon] at h2
  rcases Nat.lt_or_ge i listed.size with h' | h'
  · simp [h'] at hi h2; rw [hi] at h2; cases h2
  · simp [Array.getElem?_eq_none h'] at h2

theorem wpF_first {kd : Nat → Nat} {Q : Act → World → Prop} {i : Nat} {oi : Oper} {v : Value} (hi : ops[i]? = some oi) (hsel : ∀ (j : Nat) (o : Oper) cs b, ops[j]? = some o → o.op ≠ .select cs b)
    (hE : orderB ops kd = true) : ∀ (fuel : Nat) (listed : Array Bool) (a : Act) (w w2 : World),
      (∀ j oj, ops[j]? = some oj → j ≠ i → listed.getD j true = false → (∀ e ∈ oj.after, Region.binds .any e = true → e.on ≠ i) → oi.apart ops oj = true) →
      i ∈ Region.ready .any ops listed → YF P ops R (kd i) oi a w v w2 →
      wpF P ops R kd Q fuel (listed.setIfInBounds i true) (a.put oi.dst v) w2 → wpF P ops R kd Q (fuel + 1) listed a w := by
  intro fuel
  induction fuel with
  | zero =>
    intro listed a w w2 _ hr hy H
    refine ⟨fun h => (by rw [h] at hr; cases hr), fun j hj => ?_⟩
    by_cases hji : j = i
    · subst hji
      unfold stepF
      simp only [hi]
      exact ⟨v, w2, hy, H⟩
    · have := ready_mono hj hji
      rw [H.1] at this
      cases this
  | succ fuel ih =>
    intro listed a w w2 hfree hr hy H
    refine ⟨fun h => (by rw [h] at hr; cases hr), fun j hj => ?_⟩
    by_cases hji : j = i
    · subst hji
      unfold stepF
      simp only [hi]
      exact ⟨v, w2, hy, H⟩
    · have hiun := (mem_ready.1 hr).1
      have h1 := H.2 j (ready_mono hj hji)
      obtain ⟨hjun, oj, hoj, hall⟩ := mem_ready.1 hj
      have hnot : ∀ e ∈ oj.after, Region.binds .any e = true → e.on ≠ i := fun e he hb heq => by
        have h2 := hall e he hb
        rw [heq] at h2
        rcases Nat.lt_or_ge i listed.size with h' | h'
        · simp [h'] at hiun h2; rw [hiun] at h2; cases h2
        · simp [Array.getElem?_eq_none h'] at h2
      obtain ⟨p1, p2, p3⟩ := Oper.apart_spec (hfree j oj hoj hji hjun hnot)
      unfold stepF at h1 ⊢
      simp only [hoj] at h1 ⊢
      obtain ⟨u, w3, hyj, hK⟩ := h1
      rw [YF_put v (fun cs b => hsel j oj cs b hoj) p1] at hyj
      have hfree' : ∀ k ok, ops[k]? = some ok → k ≠ i → (listed.setIfInBounds j true).getD k true = false →
          (∀ e ∈ ok.after, Region.binds .any e = true → e.on ≠ i) → oi.apart ops ok = true := fun k ok hk hki hun hno => by
        refine hfree k ok hk hki ?_ hno
        by_cases hjk : j = k
        · subst hjk; exact hjun
        · rw [getD_set_ne true hjk] at hun; exact hun
      have hr' := ready_mono hr (Ne.symm hji)
      rw [Array.setIfInBounds_comm _ _ (Ne.symm hji), Act.put_comm a v u p2] at hK
      by_cases ki : kd i = 0
      · rw [ki] at hy
        obtain ⟨rfl, _⟩ := YF_zero (w3 := w) hy
        refine ⟨u, w3, hyj, ih _ _ w3 w3 hfree' hr' ?_ hK⟩
        rw [ki]
        exact (YF_put u (fun cs b => hsel i oi cs b hi) p3).2 (YF_zero hy).2
      · by_cases kj : kd j = 0
        · rw [kj] at hyj
          obtain ⟨rfl, _⟩ := YF_zero (w3 := w) hyj
          refine ⟨u, w, by rw [kj]; exact (YF_zero hyj).2, ih _ _ w w3 hfree' hr' ?_ hK⟩
          exact (YF_put u (fun cs b => hsel i oi cs b hi) p3).2 hy
        · by_cases ki1 : kd i = 1
          · by_cases kj1 : kd j = 1
            · rw [ki1] at hy
              rw [kj1] at hyj
              obtain rfl := YF_one hy
              obtain rfl := YF_one hyj
              refine ⟨u, w3, by rw [kj1]; exact hyj, ih _ _ w3 w3 hfree' hr' ?_ hK⟩
              rw [ki1]
              exact (YF_put u (fun cs b => hsel i oi cs b hi) p3).2 hy
            · rcases orderB_spec hE hoj hi kj kj1 ki (Ne.symm hji) with h | h
              · exact (not_both hiun hj h).elim
              · exact (not_both hjun hr h).elim
          · rcases orderB_spec hE hi hoj ki ki1 kj hji with h | h
            · exact (not_both hjun hr h).elim
            · exact (not_both hiun hj h).elim

theorem wpF_lex {kd : Nat → Nat} {Q : Act → World → Prop} (hs : Region.noSelect ops = true) (hE : orderB ops kd = true) : ∀ (l : List Oper) (k : Nat) (listed : Array Bool) (a : Act) (w : World), (∀ j, l[j]? = ops[k + j]?) →
    Region.lexFrom .any ops l.length k listed = true → flow P ops R kd Q k l a w → wpF P ops R kd Q l.length listed a w
  | [], _, _, _, _, _, hB, h => ⟨by simpa [Region.lexFrom] using hB, h⟩
  | o :: l, k, listed, a, w, hl, hB, h => by
    have h0 : ops[k]? = some o := by simpa using (hl 0).symm
    simp only [List.length_cons, Region.lexFrom, Bool.and_eq_true] at hB
    obtain ⟨⟨hr, hf⟩, hB'⟩ := hB
    obtain ⟨v, w2, hy, hK⟩ := h
    exact wpF_first h0 (Region.noSelect_spec hs) hE l.length listed a w w2 (Region.free_spec h0 hf) (by simpa using hr) hy
      (wpF_lex hs hE l (k + 1) _ _ w2 (fun j => by have := hl (j + 1); simpa [Nat.add_assoc, Nat.add_comm 1 j] using this) hB' hK)

theorem about_FW {r : Option Nat} (P : Program) (w : World) (ρ : Operand → Value) (o : Oper) : ∀ f, o.about P w ρ = some f → (FW r).fn f := fun _ _ => trivial

theorem wpAnyIn_of_wpF {r : Option Nat} {n : Nat} {kd : Nat → Nat} {Q : Act → World → Prop} {Q' : Exit → Act → World → Prop} (hd : noDeferB ops = true) (hQ : ∀ a w, Q a w → ∀ w', R w w' → Q' .normal a w') :
    ∀ (fuel : Nat) (listed : Array Bool) (a : Act) (w : World), wpF P ops R kd Q fuel listed a w → ∀ w', R w w' → wpAnyIn (FW r) n P .any ops Q' fuel listed a w'
  | 0, _, a, w, h, w', hw => ⟨h.1, hQ a w h.2 w' hw⟩
  | fuel + 1, listed, a, w, h, w', hw => by
    refine ⟨fun h0 => hQ a w (h.1 h0) w' hw, fun i hi => ?_⟩
    have hs := h.2 i hi
    have ih := fun a2 w2 hk => wpAnyIn_of_wpF (r := r) (n := n) (kd := kd) hd hQ fuel (listed.setIfInBounds i true) a2 w2 hk
    unfold stepF at hs
    unfold wpOpIn
    cases ho : ops[i]? with
    | none =>
      simp only [ho] at hs ⊢
      exact ih _ _ hs _ hw
    | some o =>
      simp only [ho] at hs ⊢
      obtain ⟨v, w2, hy, hK⟩ := hs
      have hsem : Oper.semAt (FW r).round a.eval o = execOp a.eval o := Oper.semAt_eq _ _ _ fun c => noDefer_spec hd i o c ho
      rcases hy with ⟨hwd, h0, _, h1⟩ | ⟨hwd, hv, he⟩
      · rw [if_pos hwd]
        refine ⟨about_FW _ _ _ _, ?_⟩
        rw [hsem]
        by_cases hk : kd i = 0
        · obtain ⟨rfl, h2⟩ := h0 hk
          rw [h2 _ w' hw]
          exact ih _ _ hK _ hw
        · have h2 := h1 hk w' hw
          unfold leftBy at h2
          split at h2
          · rename_i u w'' heq
            rw [heq]
            obtain ⟨rfl, h3⟩ := h2
            exact ih _ _ hK _ h3
          · rename_i w'' heq
            rw [heq]
            obtain ⟨rfl, h3⟩ := h2
            exact ih _ _ hK _ h3
          · rename_i f args w'' heq
            rw [heq]
            refine ⟨fun h => by simp [FW] at h, callsIn_FW (h2.mono ?_)⟩
            rintro e w3 ⟨rfl, h3⟩
            exact ih _ _ hK _ h3
          · exact h2.elim
      · rw [if_neg (by simp [hwd])]
        subst hv
        subst he
        exact ⟨about_FW _ _ _ _, ih _ _ hK _ hw⟩

/-- **One walk in the order of the text serves every order**, also where calls make memory and where the last operations store. -/
theorem wpIn_flow {r : Option Nat} {n id : Nat} {Q : Exit → Act → World → Prop} {a : Act} {w : World} {l : List Oper} (kd : Nat → Nat) (R : World → World → Prop) (w1 : World) (h0 : R w1 w.drew) (hm : P.follows .mixedOrders = true)
    (hB : (Region.lexB .any l.toArray && orderB l.toArray kd && noDeferB l.toArray) = true) (h : flow P l.toArray R kd (fun a' w2 => ∀ w', R w2 w' → Q .normal a' w') 0 l a w1) : (Code.region id l.toArray true).wpIn (FW r) n P Q a w := by
  simp only [Bool.and_eq_true] at hB
  obtain ⟨⟨hB, hE⟩, hd⟩ := hB
  simp only [Region.lexB, Bool.and_eq_true] at hB
  refine wpIn_region_any hm ?_
  have H := wpF_lex (P := P) (R := R) (kd := kd) hB.1 hE l 0 (Array.replicate l.toArray.size false) a w1 (by simp) (by simpa using hB.2) h
  have := wpAnyIn_of_wpF (r := r) (n := n) (Q' := Q) hd (fun a' w2 hq w' hw => hq w' hw) _ _ _ _ H w.drew h0
  simpa using this

theorem wp_flow {id : Nat} {Q : Exit → Act → World → Prop} {a : Act} {w : World} {l : List Oper} (kd : Nat → Nat) (R : World → World → Prop) (w1 : World) (h0 : R w1 w.drew) (hm : P.follows .mixedOrders = true)
    (hB : (Region.lexB .any l.toArray && orderB l.toArray kd && noDeferB l.toArray) = true) (h : flow P l.toArray R kd (fun a' w2 => ∀ w', R w2 w' → Q .normal a' w') 0 l a w1) : (Code.region id l.toArray true).wp P Q a w :=
  wpIn_wide.1 (show (Code.region id l.toArray true).wpIn Fence.wide 0 P Q a w from wpIn_flow (r := none) kd R w1 h0 hm hB h)

/-- Below B two worlds read alike. -/
theorem bcell {B : Nat} {w w' : World} (h : Below B w w') : (∀ b o, b < B → w'.cell? ⟨b, o, none⟩ = w.cell? ⟨b, o, none⟩) ∧ (∀ b o, b < B → w'.frozen? ⟨b, o, none⟩ = w.frozen? ⟨b, o, none⟩) :=
  ⟨fun b o hb => h.cell (p := ⟨b, o, none⟩) hb, fun b o hb => h.frozen (p := ⟨b, o, none⟩) hb⟩

theorem below_store {B : Nat} {w w' : World} (h : Below B w w') (p : Addr) (u : Value) : Below B (w.setCell p u) (w'.setCell p u) := by
  refine ⟨h.os, h.tape, h.output, by simpa [World.setCell] using h.size, fun k hk => ?_⟩
  by_cases hb : k = p.block
  · subst hb
    have := h.block p.block hk
    simp only [World.setCell, Array.getElem?_modify, this]
  · rw [Below.heap_setCell _ _ _ _ hb, Below.heap_setCell _ _ _ _ hb]
    exact h.block k hk

theorem below_drewN {B : Nat} {a w : World} (h : Below B a w) (n : Nat) : Below B a (w.drewN n) := ⟨h.os, h.tape, h.output, h.size, h.block⟩

/-- The world w, after some draws. -/
def Dr (w w' : World) : Prop := ∃ n, w' = w.drewN n
theorem Dr.refl (w : World) : Dr w w := ⟨0, rfl⟩
theorem Dr.one (w : World) : Dr w w.drew := ⟨1, rfl⟩
theorem Dr.next (w : World) (n : Nat) : Dr w (w.drewN n).drew := ⟨n + 1, rfl⟩
theorem Dr.of (w : World) (n : Nat) : Dr w (w.drewN n) := ⟨n, rfl⟩
theorem Dr.store4 (w : World) (n : Nat) (p q r s : Addr) (a b c d : Value) : Dr ((((w.setCell p a).setCell q b).setCell r c).setCell s d) (((((w.drewN n).setCell p a).setCell q b).setCell r c).setCell s d) := ⟨n, rfl⟩
/-- .. and C holds. -/
def DrC (C : World → Prop) (w w' : World) : Prop := Dr w w' ∧ C w'
theorem Dr.store (w : World) (n : Nat) (p : Addr) (u : Value) : Dr (w.setCell p u) ((w.drewN n).setCell p u) := ⟨n, rfl⟩

theorem flow_nil {kd : Nat → Nat} {Q : Act → World → Prop} {k : Nat} {a : Act} {w : World} (h : Q a w) : flow P ops R kd Q k [] a w := h

theorem flow_late {kd : Nat → Nat} {Q : Act → World → Prop} {k : Nat} {a : Act} {w : World} {o : Oper} {rest : List Oper} (hk : kd k = 0) (hw : Region.wanted o (yielded ops a.tmps) = true)
    (h : ∀ K : Act → Prop, (∀ a', flow P ops R kd Q (k + 1) rest a' w → K a') → ∃ v, (∀ w0 w', R w0 w' → (execOp a.eval o).run P w' = .ok (.value v) w') ∧ K (a.put o.dst v)) : flow P ops R kd Q k (o :: rest) a w :=
  let ⟨v, h1, h2⟩ := h _ fun _ h => h
  ⟨v, w, .inl ⟨hw, fun _ => ⟨rfl, h1⟩, fun _ => rfl, fun h' => absurd hk h'⟩, h2⟩

theorem flow_quiet {kd : Nat → Nat} {Q : Act → World → Prop} {k : Nat} {a : Act} {w : World} {o : Oper} {rest : List Oper} (hk : kd k = 1) (hw : Region.wanted o (yielded ops a.tmps) = true)
    (h : ∀ K : Act → Prop, (∀ a', flow P ops R kd Q (k + 1) rest a' w → K a') → ∃ v, (∀ w', R w w' → leftBy P (R w) v ((execOp a.eval o).run P w')) ∧ K (a.put o.dst v)) : flow P ops R kd Q k (o :: rest) a w :=
  let ⟨v, h1, h2⟩ := h _ fun _ h => h
  ⟨v, w, .inl ⟨hw, fun h' => absurd (hk.symm.trans h') (by decide), fun _ => rfl, fun _ => h1⟩, h2⟩

theorem flow_eff {kd : Nat → Nat} {Q : Act → World → Prop} {k : Nat} {a : Act} {w : World} {o : Oper} {rest : List Oper} (hk : kd k = 2) (hw : Region.wanted o (yielded ops a.tmps) = true)
    (h : ∀ K : Act → World → Prop, (∀ a' w', flow P ops R kd Q (k + 1) rest a' w' → K a' w') → ∃ v w2, (∀ w', R w w' → leftBy P (R w2) v ((execOp a.eval o).run P w')) ∧ K (a.put o.dst v) w2) : flow P ops R kd Q k (o :: rest) a w :=
  let ⟨v, w2, h1, h2⟩ := h _ fun _ _ h => h
  ⟨v, w2, .inl ⟨hw, fun h' => absurd (hk.symm.trans h') (by decide), fun h' => absurd (hk.symm.trans h') (by decide), fun _ => h1⟩, h2⟩

theorem flow_skip {kd : Nat → Nat} {Q : Act → World → Prop} {k : Nat} {a : Act} {w : World} {o : Oper} {rest : List Oper} (hw : Region.wanted o (yielded ops a.tmps) = false)
    (h : ∀ K : Act → Prop, (∀ a', flow P ops R kd Q (k + 1) rest a' w → K a') → K (a.put o.dst undef)) : flow P ops R kd Q k (o :: rest) a w :=
  ⟨undef, w, .inr ⟨hw, rfl, rfl⟩, h _ fun _ h => h⟩

end flow
end Go.Proofs.YtijidnhaijdfaaaGreatDoor
