/-
  A region whose order of evaluation is left open, whose operations may yield one of many values, and in which last operations may turn what others have read: walked once in the order of the text. Conditions: none.
-/
import Derived.Test.YtcdjdnbdblpofaaDoorFlow6
namespace Go.Proofs.YtcdjdnbdblpofaaDoor
open Go.RowKit

section flow7
variable {P : Program} {ops : Array Oper} {σ : Type} {R : σ → World → Prop} {C : σ → Prop}

/-- What an operation leaves. -/
def leaves (P : Program) (B : Value → World → Prop) : Result Next → Prop
  | .ok (.value u) w => B u w
  | .ok .skip w => B undef w
  | .ok (.enter f args) w => Calls P f args w fun e w' => ∃ u, e = .returned u ∧ B u w'
  | _ => False

/-- Kind 0: the operation yields v as long as anything of kind 0 is to come. Kind 1: it yields v in this state. From kind 2 on: it yields one of many values and leaves a state that fits it. -/
def YU (P : Program) (ops : Array Oper) (R : σ → World → Prop) (C : σ → Prop) (k : Nat) (o : Oper) (a : Act) (s : σ) (K : Value → σ → Prop) : Prop :=
  (Region.wanted o (yielded ops a.tmps) = true ∧
    ((k = 0 ∧ ∃ v, (∀ s0 w', C s0 → R s0 w' → (execOp a.eval o).run P w' = .ok (.value v) w') ∧ K v s) ∨
     (k = 1 ∧ ∃ v, (∀ w', R s w' → (execOp a.eval o).run P w' = .ok (.value v) w') ∧ K v s) ∨
     (2 ≤ k ∧ ∃ Ψ : Value → σ → Prop, (∃ v s2, Ψ v s2) ∧ (∀ w', R s w' → leaves P (fun v w2 => ∃ s2, Ψ v s2 ∧ R s2 w2) ((execOp a.eval o).run P w')) ∧ (k ≠ 4 → C s → ∀ v s2, Ψ v s2 → C s2) ∧ ∀ v s2, Ψ v s2 → K v s2))) ∨
  (Region.wanted o (yielded ops a.tmps) = false ∧ K undef s)

theorem YU.mono {k : Nat} {o : Oper} {a : Act} {s : σ} {K K' : Value → σ → Prop} (h : YU P ops R C k o a s K) (hK : ∀ v s2, K v s2 → K' v s2) : YU P ops R C k o a s K' := by
  rcases h with ⟨hw, ⟨h0, v, h1, h2⟩ | ⟨h0, v, h1, h2⟩ | ⟨h0, Ψ, h1, h2, h3, h4⟩⟩ | ⟨hw, h⟩
  · exact .inl ⟨hw, .inl ⟨h0, v, h1, hK _ _ h2⟩⟩
  · exact .inl ⟨hw, .inr (.inl ⟨h0, v, h1, hK _ _ h2⟩)⟩
  · exact .inl ⟨hw, .inr (.inr ⟨h0, Ψ, h1, h2, h3, fun v s2 h => hK _ _ (h4 v s2 h)⟩)⟩
  · exact .inr ⟨hw, hK _ _ h⟩

theorem YU.some {k : Nat} {o : Oper} {a : Act} {s : σ} {K : Value → σ → Prop} (h : YU P ops R C k o a s K) : ∃ v s2, K v s2 := by
  rcases h with ⟨hw, ⟨h0, v, h1, h2⟩ | ⟨h0, v, h1, h2⟩ | ⟨h0, Ψ, ⟨v, s2, h1⟩, h2, h3, h4⟩⟩ | ⟨hw, h⟩
  · exact ⟨_, _, h2⟩
  · exact ⟨_, _, h2⟩
  · exact ⟨_, _, h4 _ _ h1⟩
  · exact ⟨_, _, h⟩

theorem YU_put {k : Nat} {oi : Oper} {a : Act} {s : σ} {K : Value → σ → Prop} {dst : Option Tmp} (u : Value) (hs : ∀ cs b, oi.op ≠ .select cs b) (h : ∀ d, dst = some d → d ∉ oi.looksAt ops) :
    YU P ops R C k oi (a.put dst u) s K ↔ YU P ops R C k oi a s K := by
  unfold YU
  rw [execOp_put oi hs a dst u h, wanted_put oi a dst u h]

def stepU (P : Program) (ops : Array Oper) (R : σ → World → Prop) (C : σ → Prop) (kd : Nat → Nat) (i : Nat) (K : Act → σ → Prop) (a : Act) (s : σ) : Prop :=
  match ops[i]? with
  | none => K a s
  | some o => YU P ops R C (kd i) o a s fun v s2 => K (a.put o.dst v) s2

def wpU (P : Program) (ops : Array Oper) (R : σ → World → Prop) (C : σ → Prop) (kd : Nat → Nat) (Q : Act → σ → Prop) : Nat → Array Bool → Act → σ → Prop
  | 0, listed, a, s => Region.ready .any ops listed = [] ∧ Q a s
  | fuel + 1, listed, a, s =>
    (Region.ready .any ops listed = [] → Q a s) ∧
    ∀ i ∈ Region.ready .any ops listed, stepU P ops R C kd i (wpU P ops R C kd Q fuel (listed.setIfInBounds i true)) a s

def flowU (P : Program) (ops : Array Oper) (R : σ → World → Prop) (C : σ → Prop) (kd : Nat → Nat) (Q : Act → σ → Prop) : Nat → List Oper → Act → σ → Prop
  | _, [], a, s => Q a s
  | k, o :: rest, a, s => YU P ops R C (kd k) o a s fun v s2 => flowU P ops R C kd Q (k + 1) rest (a.put o.dst v) s2

theorem wpU_first {kd : Nat → Nat} {Q : Act → σ → Prop} {i : Nat} {oi : Oper} (hi : ops[i]? = some oi) (hsel : ∀ (j : Nat) (o : Oper) cs b, ops[j]? = some o → o.op ≠ .select cs b)
    (hE : orderT ops kd = true) (hne : ∃ s0 w0, C s0 ∧ R s0 w0) : ∀ (fuel : Nat) (listed : Array Bool) (a : Act) (s : σ), Shut ops listed →
      (∀ j oj, ops[j]? = some oj → j ≠ i → listed.getD j true = false → (∀ e ∈ oj.after, Region.binds .any e = true → e.on ≠ i) → oi.apart ops oj = true) →
      i ∈ Region.ready .any ops listed → YU P ops R C (kd i) oi a s (fun v s2 => wpU P ops R C kd Q fuel (listed.setIfInBounds i true) (a.put oi.dst v) s2) → wpU P ops R C kd Q (fuel + 1) listed a s := by
  intro fuel
  induction fuel with
  | zero =>
    intro listed a s _ _ hr hy
    refine ⟨fun h => (by rw [h] at hr; cases hr), fun j hj => ?_⟩
    by_cases hji : j = i
    · subst hji
      unfold stepU
      simp only [hi]
      exact hy
    · obtain ⟨v, s2, H⟩ := hy.some
      have := ready_mono hj hji
      rw [H.1] at this
      cases this
  | succ fuel ih =>
    intro listed a s hS hfree hr hy
    refine ⟨fun h => (by rw [h] at hr; cases hr), fun j hj => ?_⟩
    by_cases hji : j = i
    · subst hji
      unfold stepU
      simp only [hi]
      exact hy
    · have hiun := (mem_ready.1 hr).1
      obtain ⟨hjun, oj, hoj, hall⟩ := mem_ready.1 hj
      have hnot : ∀ e ∈ oj.after, Region.binds .any e = true → e.on ≠ i := fun e he hb heq => by
        have h2 := hall e he hb
        rw [heq] at h2
        exact unlisted hiun h2
      obtain ⟨p1, p2, p3⟩ := Oper.apart_spec (hfree j oj hoj hji hjun hnot)
      have hfree' : ∀ k ok, ops[k]? = some ok → k ≠ i → (listed.setIfInBounds j true).getD k true = false →
          (∀ e ∈ ok.after, Region.binds .any e = true → e.on ≠ i) → oi.apart ops ok = true := fun k ok hk hki hun hno => by
        refine hfree k ok hk hki ?_ hno
        by_cases hjk : j = k
        · subst hjk; exact hjun
        · rw [getD_set_ne true hjk] at hun; exact hun
      have hr' := ready_mono hr (Ne.symm hji)
      have hS' := hS.set hj
      have sel_i := fun cs b => hsel i oi cs b hi
      have sel_j := fun cs b => hsel j oj cs b hoj
      -- what the step of j gives behind i
      have after : ∀ v s2, wpU P ops R C kd Q (fuel + 1) (listed.setIfInBounds i true) (a.put oi.dst v) s2 →
          YU P ops R C (kd j) oj a s2 fun u s3 => wpU P ops R C kd Q fuel ((listed.setIfInBounds j true).setIfInBounds i true) ((a.put oj.dst u).put oi.dst v) s3 := fun v s2 H => by
        have h1 := H.2 j (ready_mono hj hji)
        unfold stepU at h1
        simp only [hoj] at h1
        have h1 := (YU_put v sel_j p1).1 h1
        refine h1.mono fun u s3 h => ?_
        rwa [Array.setIfInBounds_comm _ _ (Ne.symm hji), Act.put_comm a v u p2] at h
      unfold stepU
      simp only [hoj]
      -- i behind j, at a value of j
      have behind : ∀ u s3, YU P ops R C (kd i) oi a s3 (fun v s2 => wpU P ops R C kd Q fuel ((listed.setIfInBounds j true).setIfInBounds i true) ((a.put oj.dst u).put oi.dst v) s2) →
          wpU P ops R C kd Q (fuel + 1) (listed.setIfInBounds j true) (a.put oj.dst u) s3 := fun u s3 h =>
        ih _ _ _ hS' hfree' hr' ((YU_put u sel_i p3).2 h)
      rcases hy with ⟨hwi, hy⟩ | ⟨hwi, hy⟩
      · rcases hy with ⟨ki, v, hv, H⟩ | ⟨ki, v, hv, H⟩ | ⟨ki, Ψ, hΨ, hrun, hC, H⟩
        · refine (after v s H).mono fun u s3 h => behind u s3 (.inl ⟨hwi, .inl ⟨ki, v, hv, h⟩⟩)
        · rcases after v s H with ⟨hwj, hj1 | hj1 | hj1⟩ | ⟨hwj, hj1⟩
          · obtain ⟨kj, u, hu, h⟩ := hj1
            exact .inl ⟨hwj, .inl ⟨kj, u, hu, behind u s (.inl ⟨hwi, .inr (.inl ⟨ki, v, hv, h⟩)⟩)⟩⟩
          · obtain ⟨kj, u, hu, h⟩ := hj1
            exact .inl ⟨hwj, .inr (.inl ⟨kj, u, hu, behind u s (.inl ⟨hwi, .inr (.inl ⟨ki, v, hv, h⟩)⟩)⟩)⟩
          · obtain ⟨kj, _⟩ := hj1
            rcases orderT_spec hE hoj hi (by omega) (by omega) (by omega) (Ne.symm hji) with h | h
            · exact (not_bothT hS hiun hj h).elim
            · exact (not_bothT hS hjun hr h).elim
          · exact .inr ⟨hwj, behind undef s (.inl ⟨hwi, .inr (.inl ⟨ki, v, hv, hj1⟩)⟩)⟩
        · by_cases kj : kd j = 0
          · obtain ⟨v0, s0, h0⟩ := hΨ
            rcases after v0 s0 (H v0 s0 h0) with ⟨hwj, hj1⟩ | ⟨hwj, hj1⟩
            · rcases hj1 with ⟨_, u, hu, _⟩ | ⟨k1, _⟩ | ⟨k2, _⟩
              · refine .inl ⟨hwj, .inl ⟨kj, u, hu, behind u s (.inl ⟨hwi, .inr (.inr ⟨ki, Ψ, ⟨v0, s0, h0⟩, hrun, hC, fun v s2 hv => ?_⟩)⟩)⟩⟩
                rcases after v s2 (H v s2 hv) with ⟨_, ⟨_, u', hu', h'⟩ | ⟨k1, _⟩ | ⟨k2, _⟩⟩ | ⟨hwj', _⟩
                · obtain ⟨sw, ww, hcw, hrw⟩ := hne
                  have e1 := hu sw ww hcw hrw
                  rw [hu' sw ww hcw hrw] at e1
                  injection e1 with e1
                  injection e1 with e1
                  rw [← e1]
                  exact h'
                · omega
                · omega
                · rw [hwj] at hwj'
                  cases hwj'
              · omega
              · omega
            · refine .inr ⟨hwj, behind undef s (.inl ⟨hwi, .inr (.inr ⟨ki, Ψ, ⟨v0, s0, h0⟩, hrun, hC, fun v s2 hv => ?_⟩)⟩)⟩
              rcases after v s2 (H v s2 hv) with ⟨hwj', _⟩ | ⟨_, h'⟩
              · rw [hwj] at hwj'
                cases hwj'
              · exact h'
          · rcases orderT_spec hE hi hoj (by omega) (by omega) kj hji with h | h
            · exact (not_bothT hS hjun hr h).elim
            · exact (not_bothT hS hiun hj h).elim
      · refine (after undef s hy).mono fun u s3 h => behind u s3 (.inr ⟨hwi, h⟩)

theorem wpU_lex {kd : Nat → Nat} {Q : Act → σ → Prop} (hs : Region.noSelect ops = true) (hE : orderT ops kd = true) (hne : ∃ s0 w0, C s0 ∧ R s0 w0) : ∀ (l : List Oper) (k : Nat) (listed : Array Bool) (a : Act) (s : σ), Shut ops listed → (∀ j, l[j]? = ops[k + j]?) →
    Region.lexFrom .any ops l.length k listed = true → flowU P ops R C kd Q k l a s → wpU P ops R C kd Q l.length listed a s
  | [], _, _, _, _, _, _, hB, h => ⟨by simpa [Region.lexFrom] using hB, h⟩
  | o :: l, k, listed, a, s, hS, hl, hB, h => by
    have h0 : ops[k]? = some o := by simpa using (hl 0).symm
    simp only [List.length_cons, Region.lexFrom, Bool.and_eq_true] at hB
    obtain ⟨⟨hr, hf⟩, hB'⟩ := hB
    have hr' : k ∈ Region.ready .any ops listed := by simpa using hr
    refine wpU_first h0 (Region.noSelect_spec hs) hE hne l.length listed a s hS (Region.free_spec h0 hf) hr' (YU.mono h fun v s2 hK => ?_)
    exact wpU_lex hs hE hne l (k + 1) _ _ s2 (hS.set hr') (fun j => by have := hl (j + 1); simpa [Nat.add_assoc, Nat.add_comm 1 j] using this) hB' hK

theorem wpAnyIn_of_wpU {r : Option Nat} {n : Nat} {kd : Nat → Nat} {Q : Act → σ → Prop} {Q' : Exit → Act → World → Prop} (hd : noDeferB ops = true) (hcl : closeT ops kd = true) (hQ : ∀ a s, Q a s → ∀ w', R s w' → Q' .normal a w') :
    ∀ (fuel : Nat) (listed : Array Bool) (a : Act) (s : σ), Shut ops listed → wpU P ops R C kd Q fuel listed a s → (pends ops kd listed → C s) → ∀ w', R s w' → wpAnyIn (FW r) n P .any ops Q' fuel listed a w'
  | 0, _, a, s, _, h, _, w', hw => ⟨h.1, hQ a s h.2 w' hw⟩
  | fuel + 1, listed, a, s, hS, h, hC, w', hw => by
    refine ⟨fun h0 => hQ a s (h.1 h0) w' hw, fun i hi => ?_⟩
    have hs := h.2 i hi
    have ih := fun a2 s2 hk => wpAnyIn_of_wpU (r := r) (n := n) (kd := kd) hd hcl hQ fuel (listed.setIfInBounds i true) a2 s2 (hS.set hi) hk
    unfold stepU at hs
    unfold wpOpIn
    cases ho : ops[i]? with
    | none =>
      simp only [ho] at hs ⊢
      exact ih _ _ hs (fun hp => hC (pends_less hp)) _ hw
    | some o =>
      simp only [ho] at hs ⊢
      have hsem : Oper.semAt (FW r).round a.eval o = execOp a.eval o := Oper.semAt_eq _ _ _ fun c => noDefer_spec hd i o c ho
      rcases hs with ⟨hwd, hs⟩ | ⟨hwd, hs⟩
      · rw [if_pos hwd]
        refine ⟨about_FW _ _ _ _, ?_⟩
        rw [hsem]
        rcases hs with ⟨hk, v, hv, hK⟩ | ⟨hk, v, hv, hK⟩ | ⟨hk, Ψ, _, hrun, hC2, hK⟩
        · rw [hv s w' (hC ⟨i, o, ho, hk, (mem_ready.1 hi).1⟩) hw]
          exact ih _ _ hK (fun hp => hC (pends_less hp)) _ hw
        · rw [hv w' hw]
          exact ih _ _ hK (fun hp => hC (pends_less hp)) _ hw
        · have hCn : ∀ v s2, Ψ v s2 → pends ops kd (listed.setIfInBounds i true) → C s2 := fun v s2 hv hp => by
            by_cases h4 : kd i = 4
            · obtain ⟨j, oj, hj1, hj2, hj3⟩ := pends_less hp
              exact (not_bothT hS hj3 hi (closeT_spec hcl ho hj1 h4 hj2)).elim
            · exact hC2 h4 (hC (pends_less hp)) v s2 hv
          have h2 := hrun w' hw
          unfold leaves at h2
          split at h2
          · rename_i u w'' heq
            rw [heq]
            obtain ⟨s2, hv, hR⟩ := h2
            exact ih _ _ (hK _ _ hv) (hCn _ _ hv) _ hR
          · rename_i w'' heq
            rw [heq]
            obtain ⟨s2, hv, hR⟩ := h2
            exact ih _ _ (hK _ _ hv) (hCn _ _ hv) _ hR
          · rename_i f args w'' heq
            rw [heq]
            refine ⟨fun h => by simp [FW] at h, callsIn_FW (h2.mono ?_)⟩
            rintro e w3 ⟨u, rfl, s2, hv, hR⟩
            exact ih _ _ (hK _ _ hv) (hCn _ _ hv) _ hR
          · exact h2.elim
      · rw [if_neg (by simp [hwd])]
        exact ⟨about_FW _ _ _ _, ih _ _ hs (fun hp => hC (pends_less hp)) _ hw⟩

/-- **One walk in the order of the text serves every order**, values that nobody knows and last operations included. -/
theorem wpIn_flowU {r : Option Nat} {n id : Nat} {Q : Exit → Act → World → Prop} {a : Act} {w : World} {l : List Oper} (kd : Nat → Nat) (R : σ → World → Prop) (C : σ → Prop) (s : σ) (h0 : R s w.drew) (h00 : C s) (hm : P.follows .mixedOrders = true)
    (hB : (Region.lexB .any l.toArray && orderT l.toArray kd && noDeferB l.toArray && closeT l.toArray kd) = true) (h : flowU P l.toArray R C kd (fun a' s2 => ∀ w', R s2 w' → Q .normal a' w') 0 l a s) : (Code.region id l.toArray true).wpIn (FW r) n P Q a w := by
  simp only [Bool.and_eq_true] at hB
  obtain ⟨⟨⟨hB, hE⟩, hd⟩, hcl⟩ := hB
  simp only [Region.lexB, Bool.and_eq_true] at hB
  refine wpIn_region_any hm ?_
  have H := wpU_lex (P := P) (R := R) (C := C) (kd := kd) hB.1 hE ⟨s, _, h00, h0⟩ l 0 (Array.replicate l.toArray.size false) a s (Shut.none _) (by simp) (by simpa using hB.2) h
  have := wpAnyIn_of_wpU (r := r) (n := n) (Q' := Q) hd hcl (fun a' s2 hq w' hw => hq w' hw) _ _ _ _ (Shut.none _) H (fun _ => h00) w.drew h0
  simpa using this

theorem wp_flowU {id : Nat} {Q : Exit → Act → World → Prop} {a : Act} {w : World} {l : List Oper} (kd : Nat → Nat) (R : σ → World → Prop) (C : σ → Prop) (s : σ) (h0 : R s w.drew) (h00 : C s) (hm : P.follows .mixedOrders = true)
    (hB : (Region.lexB .any l.toArray && orderT l.toArray kd && noDeferB l.toArray && closeT l.toArray kd) = true) (h : flowU P l.toArray R C kd (fun a' s2 => ∀ w', R s2 w' → Q .normal a' w') 0 l a s) : (Code.region id l.toArray true).wp P Q a w :=
  wpIn_wide.1 (show (Code.region id l.toArray true).wpIn Fence.wide 0 P Q a w from wpIn_flowU (r := none) kd R C s h0 h00 hm hB h)

theorem flowU_nil {kd : Nat → Nat} {Q : Act → σ → Prop} {k : Nat} {a : Act} {s : σ} (h : Q a s) : flowU P ops R C kd Q k [] a s := h

/-- Kind 0. -/
theorem flowU_late {kd : Nat → Nat} {Q : Act → σ → Prop} {k : Nat} {a : Act} {s : σ} {o : Oper} {rest : List Oper} (v : Value) (hk : kd k = 0) (hw : Region.wanted o (yielded ops a.tmps) = true)
    (h1 : ∀ s0 w', C s0 → R s0 w' → (execOp a.eval o).run P w' = .ok (.value v) w') (h : ∀ K : Act → Prop, (∀ a', flowU P ops R C kd Q (k + 1) rest a' s → K a') → K (a.put o.dst v)) : flowU P ops R C kd Q k (o :: rest) a s :=
  .inl ⟨hw, .inl ⟨hk, v, h1, h _ fun _ h => h⟩⟩
/-- Kind 1. -/
theorem flowU_read {kd : Nat → Nat} {Q : Act → σ → Prop} {k : Nat} {a : Act} {s : σ} {o : Oper} {rest : List Oper} (v : Value) (hk : kd k = 1) (hw : Region.wanted o (yielded ops a.tmps) = true)
    (h1 : ∀ w', R s w' → (execOp a.eval o).run P w' = .ok (.value v) w') (h : ∀ K : Act → Prop, (∀ a', flowU P ops R C kd Q (k + 1) rest a' s → K a') → K (a.put o.dst v)) : flowU P ops R C kd Q k (o :: rest) a s :=
  .inl ⟨hw, .inr (.inl ⟨hk, v, h1, h _ fun _ h => h⟩)⟩
/-- Kind 2, and 4 for the last. -/
theorem flowU_step {kd : Nat → Nat} {Q : Act → σ → Prop} {k : Nat} {a : Act} {s : σ} {o : Oper} {rest : List Oper} (Ψ : Value → σ → Prop) (hk : 2 ≤ kd k) (hw : Region.wanted o (yielded ops a.tmps) = true) (hΨ : ∃ v s2, Ψ v s2)
    (h1 : ∀ w', R s w' → leaves P (fun v w2 => ∃ s2, Ψ v s2 ∧ R s2 w2) ((execOp a.eval o).run P w')) (hC : kd k ≠ 4 → C s → ∀ v s2, Ψ v s2 → C s2)
    (h : ∀ K : Act → σ → Prop, (∀ a' s', flowU P ops R C kd Q (k + 1) rest a' s' → K a' s') → ∀ v s2, Ψ v s2 → K (a.put o.dst v) s2) : flowU P ops R C kd Q k (o :: rest) a s :=
  .inl ⟨hw, .inr (.inr ⟨hk, Ψ, hΨ, h1, hC, h _ fun _ _ h => h⟩)⟩
end flow7
end Go.Proofs.YtcdjdnbdblpofaaDoor
