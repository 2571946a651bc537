/-
  Texts of one proof, one behind the other. Conditions: each text's own line says them.
-/
import Derived.Test.YtijidnhaijdfaaaGreatDoorFlow
import Derived.Test.YtijidnhaijdfaaaGreatDoorFlow3

/- A region whose order of evaluation is left open, walked once in the order of the text, where what waits may wait through others. Conditions: none. -/
namespace Go.Proofs.YtijidnhaijdfaaaGreatDoor
open Go.RowKit

section flowT
variable {P : Program} {ops : Array Oper} {R : World → World → Prop}

/-- j waits for i, by n operations between them at most. -/
def waitsT (ops : Array Oper) : Nat → Nat → Nat → Bool
  | 0, j, i => waitsB ops j i
  | n + 1, j, i => waitsB ops j i || match ops[j]? with
    | some oj => oj.after.any fun e => Region.binds .any e && waitsT ops n e.on i
    | none => false

def orderT (ops : Array Oper) (kd : Nat → Nat) : Bool :=
  (List.range ops.size).all fun e => kd e == 0 || kd e == 1 || (List.range ops.size).all fun j => kd j == 0 || j == e || (decide (j < e) && waitsT ops ops.size e j) || (decide (e < j) && waitsT ops ops.size j e)

/-- What a listed operation waits for is listed. -/
def Shut (ops : Array Oper) (listed : Array Bool) : Prop := ∀ (j : Nat) oj, ops[j]? = some oj → listed.getD j false = true → ∀ e ∈ oj.after, Region.binds .any e = true → listed.getD e.on false = true

theorem Shut.set {listed : Array Bool} {j : Nat} (h : Shut ops listed) (hr : j ∈ Region.ready .any ops listed) : Shut ops (listed.setIfInBounds j true) := by
  intro k ok hk hl e he hb
  by_cases hjk : j = k
  · subst hjk
    obtain ⟨_, o2, ho2, hall⟩ := mem_ready.1 hr
    obtain rfl := Option.some.inj (hk.symm.trans ho2)
    exact getD_set_true (hall e he hb)
  · rw [getD_set_ne false hjk] at hl
    exact getD_set_true (h k ok hk hl e he hb)

theorem Shut.waits {listed : Array Bool} (h : Shut ops listed) {i : Nat} : ∀ n j, listed.getD j false = true → waitsT ops n j i = true → listed.getD i false = true
  | 0, j, hl, hw => by
    obtain ⟨oj, hj, e, he, hb, rfl⟩ := waitsB_spec hw
    exact h j oj hj hl e he hb
  | n + 1, j, hl, hw => by
    unfold waitsT at hw
    rw [Bool.or_eq_true] at hw
    rcases hw with hw | hw
    · obtain ⟨oj, hj, e, he, hb, rfl⟩ := waitsB_spec hw
      exact h j oj hj hl e he hb
    · split at hw
      · rename_i oj hj
        obtain ⟨e, he, hb⟩ := Array.any_eq_true'.1 hw
        simp only [Bool.and_eq_true] at hb
        exact h.waits n e.on (h j oj hj hl e he hb.1) hb.2
      · cases hw

theorem unlisted {listed : Array Bool} {i : Nat} (h1 : listed.getD i true = false) (h2 : listed.getD i false = true) : False := by
  rcases Nat.lt_or_ge i listed.size with h' | h'
  · simp [h'] at h1 h2
    rw [h1] at h2
    cases h2
  · simp [Array.getElem?_eq_none h'] at h2

theorem not_bothT {listed : Array Bool} (hS : Shut ops listed) {n i j : Nat} (hi : listed.getD i true = false) (hr : j ∈ Region.ready .any ops listed) (hw : waitsT ops n j i = true) : False := by
  obtain ⟨_, o2, ho2, hall⟩ := mem_ready.1 hr
  cases n with
  | zero => exact not_both hi hr hw
  | succ n =>
    unfold waitsT at hw
    rw [Bool.or_eq_true] at hw
    rcases hw with hw | hw
    · exact not_both hi hr hw
    · rw [ho2] at hw
      obtain ⟨e, he, hb⟩ := Array.any_eq_true'.1 hw
      simp only [Bool.and_eq_true] at hb
      exact unlisted hi (hS.waits n e.on (hall e he hb.1) hb.2)

theorem orderT_spec {kd : Nat → Nat} (h : orderT ops kd = true) {e j : Nat} {oe oj : Oper} (he : ops[e]? = some oe) (hj' : ops[j]? = some oj) (h0 : kd e ≠ 0) (h1 : kd e ≠ 1) (h2 : kd j ≠ 0) (hne : j ≠ e) :
    waitsT ops ops.size e j = true ∨ waitsT ops ops.size j e = true := by
  have hes : e < ops.size := (Array.getElem?_eq_some_iff.1 he).1
  have hjs : j < ops.size := (Array.getElem?_eq_some_iff.1 hj').1
  have a1 := List.all_eq_true.1 h e (List.mem_range.2 hes)
  simp only [Bool.or_eq_true, beq_iff_eq, h0, h1, false_or] at a1
  have a2 := List.all_eq_true.1 a1 j (List.mem_range.2 hjs)
  simp only [Bool.or_eq_true, beq_iff_eq, h2, hne, false_or, Bool.and_eq_true] at a2
  rcases a2 with a2 | a2
  · exact .inl a2.2
  · exact .inr a2.2

theorem wpF_firstT {kd : Nat → Nat} {Q : Act → World → Prop} {i : Nat} {oi : Oper} {v : Value} (hi : ops[i]? = some oi) (hsel : ∀ (j : Nat) (o : Oper) cs b, ops[j]? = some o → o.op ≠ .select cs b)
    (hE : orderT ops kd = true) : ∀ (fuel : Nat) (listed : Array Bool) (a : Act) (w w2 : World), Shut ops listed →
      (∀ j oj, ops[j]? = some oj → j ≠ i → listed.getD j true = false → (∀ e ∈ oj.after, Region.binds .any e = true → e.on ≠ i) → oi.apart ops oj = true) →
      i ∈ Region.ready .any ops listed → YF P ops R (kd i) oi a w v w2 →
      wpF P ops R kd Q fuel (listed.setIfInBounds i true) (a.put oi.dst v) w2 → wpF P ops R kd Q (fuel + 1) listed a w := by
  intro fuel
  induction fuel with
  | zero =>
    intro listed a w w2 _ _ hr hy H
    refine ⟨fun h => (by rw [h] at hr; cases hr), fun j hj => ?_⟩
    by_cases hji : j = i
    · subst hji
      unfold stepF
      simp only [hi]
      exact ⟨v, w2, hy, H⟩
    · have := ready_mono hj hji
      rw [H.1] at this
      cases this
  | succ fuel ih =>
    intro listed a w w2 hS hfree hr hy H
    refine ⟨fun h => (by rw [h] at hr; cases hr), fun j hj => ?_⟩
    by_cases hji : j = i
    · subst hji
      unfold stepF
      simp only [hi]
      exact ⟨v, w2, hy, H⟩
    · have hiun := (mem_ready.1 hr).1
      have h1 := H.2 j (ready_mono hj hji)
      obtain ⟨hjun, oj, hoj, hall⟩ := mem_ready.1 hj
      have hnot : ∀ e ∈ oj.after, Region.binds .any e = true → e.on ≠ i := fun e he hb heq => by
        have h2 := hall e he hb
        rw [heq] at h2
        exact unlisted hiun h2
      obtain ⟨p1, p2, p3⟩ := Oper.apart_spec (hfree j oj hoj hji hjun hnot)
      unfold stepF at h1 ⊢
      simp only [hoj] at h1 ⊢
      obtain ⟨u, w3, hyj, hK⟩ := h1
      rw [YF_put v (fun cs b => hsel j oj cs b hoj) p1] at hyj
      have hfree' : ∀ k ok, ops[k]? = some ok → k ≠ i → (listed.setIfInBounds j true).getD k true = false →
          (∀ e ∈ ok.after, Region.binds .any e = true → e.on ≠ i) → oi.apart ops ok = true := fun k ok hk hki hun hno => by
        refine hfree k ok hk hki ?_ hno
        by_cases hjk : j = k
        · subst hjk; exact hjun
        · rw [getD_set_ne true hjk] at hun; exact hun
      have hr' := ready_mono hr (Ne.symm hji)
      have hS' := hS.set hj
      rw [Array.setIfInBounds_comm _ _ (Ne.symm hji), Act.put_comm a v u p2] at hK
      by_cases ki : kd i = 0
      · rw [ki] at hy
        obtain ⟨rfl, _⟩ := YF_zero (w3 := w) hy
        refine ⟨u, w3, hyj, ih _ _ w3 w3 hS' hfree' hr' ?_ hK⟩
        rw [ki]
        exact (YF_put u (fun cs b => hsel i oi cs b hi) p3).2 (YF_zero hy).2
      · by_cases kj : kd j = 0
        · rw [kj] at hyj
          obtain ⟨rfl, _⟩ := YF_zero (w3 := w) hyj
          refine ⟨u, w, by rw [kj]; exact (YF_zero hyj).2, ih _ _ w w3 hS' hfree' hr' ?_ hK⟩
          exact (YF_put u (fun cs b => hsel i oi cs b hi) p3).2 hy
        · by_cases ki1 : kd i = 1
          · by_cases kj1 : kd j = 1
            · rw [ki1] at hy
              rw [kj1] at hyj
              obtain rfl := YF_one hy
              obtain rfl := YF_one hyj
              refine ⟨u, w3, by rw [kj1]; exact hyj, ih _ _ w3 w3 hS' hfree' hr' ?_ hK⟩
              rw [ki1]
              exact (YF_put u (fun cs b => hsel i oi cs b hi) p3).2 hy
            · rcases orderT_spec hE hoj hi kj kj1 ki (Ne.symm hji) with h | h
              · exact (not_bothT hS hiun hj h).elim
              · exact (not_bothT hS hjun hr h).elim
          · rcases orderT_spec hE hi hoj ki ki1 kj hji with h | h
            · exact (not_bothT hS hjun hr h).elim
            · exact (not_bothT hS hiun hj h).elim

theorem wpF_lexT {kd : Nat → Nat} {Q : Act → World → Prop} (hs : Region.noSelect ops = true) (hE : orderT ops kd = true) : ∀ (l : List Oper) (k : Nat) (listed : Array Bool) (a : Act) (w : World), Shut ops listed → (∀ j, l[j]? = ops[k + j]?) →
    Region.lexFrom .any ops l.length k listed = true → flow P ops R kd Q k l a w → wpF P ops R kd Q l.length listed a w
  | [], _, _, _, _, _, _, hB, h => ⟨by simpa [Region.lexFrom] using hB, h⟩
  | o :: l, k, listed, a, w, hS, hl, hB, h => by
    have h0 : ops[k]? = some o := by simpa using (hl 0).symm
    simp only [List.length_cons, Region.lexFrom, Bool.and_eq_true] at hB
    obtain ⟨⟨hr, hf⟩, hB'⟩ := hB
    obtain ⟨v, w2, hy, hK⟩ := h
    have hr' : k ∈ Region.ready .any ops listed := by simpa using hr
    exact wpF_firstT h0 (Region.noSelect_spec hs) hE l.length listed a w w2 hS (Region.free_spec h0 hf) hr' hy
      (wpF_lexT hs hE l (k + 1) _ _ w2 (hS.set hr') (fun j => by have := hl (j + 1); simpa [Nat.add_assoc, Nat.add_comm 1 j] using this) hB' hK)

theorem Shut.none (n : Nat) : Shut ops (Array.replicate n false) := by
  intro j oj _ hl
  rcases Nat.lt_or_ge j n with h' | h'
  · simp [h'] at hl
  · rw [Array.getD_eq_getD_getElem?, Array.getElem?_eq_none (by simp; omega)] at hl
    cases hl

/-- **One walk in the order of the text serves every order**, what waits through others waiting too. -/
theorem wpIn_flowT {r : Option Nat} {n id : Nat} {Q : Exit → Act → World → Prop} {a : Act} {w : World} {l : List Oper} (kd : Nat → Nat) (R : World → World → Prop) (w1 : World) (h0 : R w1 w.drew) (hm : P.follows .mixedOrders = true)
    (hB : (Region.lexB .any l.toArray && orderT l.toArray kd && noDeferB l.toArray) = true) (h : flow P l.toArray R kd (fun a' w2 => ∀ w', R w2 w' → Q .normal a' w') 0 l a w1) : (Code.region id l.toArray true).wpIn (FW r) n P Q a w := by
  simp only [Bool.and_eq_true] at hB
  obtain ⟨⟨hB, hE⟩, hd⟩ := hB
  simp only [Region.lexB, Bool.and_eq_true] at hB
  refine wpIn_region_any hm ?_
  have H := wpF_lexT (P := P) (R := R) (kd := kd) hB.1 hE l 0 (Array.replicate l.toArray.size false) a w1 (Shut.none _) (by simp) (by simpa using hB.2) h
  have := wpAnyIn_of_wpF (r := r) (n := n) (Q' := Q) hd (fun a' w2 hq w' hw => hq w' hw) _ _ _ _ H w.drew h0
  simpa using this

theorem wp_flowT {id : Nat} {Q : Exit → Act → World → Prop} {a : Act} {w : World} {l : List Oper} (kd : Nat → Nat) (R : World → World → Prop) (w1 : World) (h0 : R w1 w.drew) (hm : P.follows .mixedOrders = true)
    (hB : (Region.lexB .any l.toArray && orderT l.toArray kd && noDeferB l.toArray) = true) (h : flow P l.toArray R kd (fun a' w2 => ∀ w', R w2 w' → Q .normal a' w') 0 l a w1) : (Code.region id l.toArray true).wp P Q a w :=
  wpIn_wide.1 (show (Code.region id l.toArray true).wpIn Fence.wide 0 P Q a w from wpIn_flowT (r := none) kd R w1 h0 hm hB h)
end flowT
end Go.Proofs.YtijidnhaijdfaaaGreatDoor

/- A region whose order of evaluation is left open and in which a last store lies behind loads that other operations let by, where what waits may wait through others: walked once in the order of the text. Conditions: none. -/
namespace Go.Proofs.YtijidnhaijdfaaaGreatDoor
open Go.RowKit

section flow6
variable {P : Program} {ops : Array Oper} {R : World → World → Prop} {C : World → Prop}

theorem wpS_firstT {kd : Nat → Nat} {Q : Act → World → Prop} {i : Nat} {oi : Oper} {v : Value} (hi : ops[i]? = some oi) (hsel : ∀ (j : Nat) (o : Oper) cs b, ops[j]? = some o → o.op ≠ .select cs b)
    (hE : orderT ops kd = true) : ∀ (fuel : Nat) (listed : Array Bool) (a : Act) (w w2 : World), Shut ops listed →
      (∀ j oj, ops[j]? = some oj → j ≠ i → listed.getD j true = false → (∀ e ∈ oj.after, Region.binds .any e = true → e.on ≠ i) → oi.apart ops oj = true) →
      i ∈ Region.ready .any ops listed → YS P ops R C (kd i) oi a w v w2 →
      wpS P ops R C kd Q fuel (listed.setIfInBounds i true) (a.put oi.dst v) w2 → wpS P ops R C kd Q (fuel + 1) listed a w := by
  intro fuel
  induction fuel with
  | zero =>
    intro listed a w w2 _ _ hr hy H
    refine ⟨fun h => (by rw [h] at hr; cases hr), fun j hj => ?_⟩
    by_cases hji : j = i
    · subst hji
      unfold stepS
      simp only [hi]
      exact ⟨v, w2, hy, H⟩
    · have := ready_mono hj hji
      rw [H.1] at this
      cases this
  | succ fuel ih =>
    intro listed a w w2 hS hfree hr hy H
    refine ⟨fun h => (by rw [h] at hr; cases hr), fun j hj => ?_⟩
    by_cases hji : j = i
    · subst hji
      unfold stepS
      simp only [hi]
      exact ⟨v, w2, hy, H⟩
    · have hiun := (mem_ready.1 hr).1
      have h1 := H.2 j (ready_mono hj hji)
      obtain ⟨hjun, oj, hoj, hall⟩ := mem_ready.1 hj
      have hnot : ∀ e ∈ oj.after, Region.binds .any e = true → e.on ≠ i := fun e he hb heq => by
        have h2 := hall e he hb
        rw [heq] at h2
        rcases Nat.lt_or_ge i listed.size with h' | h'
        · simp [h'] at hiun h2; rw [hiun] at h2; cases h2
        · simp [Array.getElem?_eq_none h'] at h2
      obtain ⟨p1, p2, p3⟩ := Oper.apart_spec (hfree j oj hoj hji hjun hnot)
      unfold stepS at h1 ⊢
      simp only [hoj] at h1 ⊢
      obtain ⟨u, w3, hyj, hK⟩ := h1
      rw [YS_put v (fun cs b => hsel j oj cs b hoj) p1] at hyj
      have hfree' : ∀ k ok, ops[k]? = some ok → k ≠ i → (listed.setIfInBounds j true).getD k true = false →
          (∀ e ∈ ok.after, Region.binds .any e = true → e.on ≠ i) → oi.apart ops ok = true := fun k ok hk hki hun hno => by
        refine hfree k ok hk hki ?_ hno
        by_cases hjk : j = k
        · subst hjk; exact hjun
        · rw [getD_set_ne true hjk] at hun; exact hun
      have hr' := ready_mono hr (Ne.symm hji)
      have hS' := hS.set hj
      rw [Array.setIfInBounds_comm _ _ (Ne.symm hji), Act.put_comm a v u p2] at hK
      by_cases ki : kd i = 0
      · rw [ki] at hy
        obtain ⟨rfl, _⟩ := YS_zero (w3 := w) hy
        refine ⟨u, w3, hyj, ih _ _ w3 w3 hS' hfree' hr' ?_ hK⟩
        rw [ki]
        exact (YS_put u (fun cs b => hsel i oi cs b hi) p3).2 (YS_zero hy).2
      · by_cases kj : kd j = 0
        · rw [kj] at hyj
          obtain ⟨rfl, _⟩ := YS_zero (w3 := w) hyj
          refine ⟨u, w, by rw [kj]; exact (YS_zero hyj).2, ih _ _ w w3 hS' hfree' hr' ?_ hK⟩
          exact (YS_put u (fun cs b => hsel i oi cs b hi) p3).2 hy
        · by_cases ki1 : kd i = 1
          · by_cases kj1 : kd j = 1
            · rw [ki1] at hy
              rw [kj1] at hyj
              obtain rfl := YS_one hy
              obtain rfl := YS_one hyj
              refine ⟨u, w3, by rw [kj1]; exact hyj, ih _ _ w3 w3 hS' hfree' hr' ?_ hK⟩
              rw [ki1]
              exact (YS_put u (fun cs b => hsel i oi cs b hi) p3).2 hy
            · rcases orderT_spec hE hoj hi kj kj1 ki (Ne.symm hji) with h | h
              · exact (not_bothT hS hiun hj h).elim
              · exact (not_bothT hS hjun hr h).elim
          · rcases orderT_spec hE hi hoj ki ki1 kj hji with h | h
            · exact (not_bothT hS hjun hr h).elim
            · exact (not_bothT hS hiun hj h).elim

theorem wpS_lexT {kd : Nat → Nat} {Q : Act → World → Prop} (hs : Region.noSelect ops = true) (hE : orderT ops kd = true) : ∀ (l : List Oper) (k : Nat) (listed : Array Bool) (a : Act) (w : World), Shut ops listed → (∀ j, l[j]? = ops[k + j]?) →
    Region.lexFrom .any ops l.length k listed = true → flowS P ops R C kd Q k l a w → wpS P ops R C kd Q l.length listed a w
  | [], _, _, _, _, _, _, hB, h => ⟨by simpa [Region.lexFrom] using hB, h⟩
  | o :: l, k, listed, a, w, hS, hl, hB, h => by
    have h0 : ops[k]? = some o := by simpa using (hl 0).symm
    simp only [List.length_cons, Region.lexFrom, Bool.and_eq_true] at hB
    obtain ⟨⟨hr, hf⟩, hB'⟩ := hB
    obtain ⟨v, w2, hy, hK⟩ := h
    have hr' : k ∈ Region.ready .any ops listed := by simpa using hr
    exact wpS_firstT h0 (Region.noSelect_spec hs) hE l.length listed a w w2 hS (Region.free_spec h0 hf) hr' hy
      (wpS_lexT hs hE l (k + 1) _ _ w2 (hS.set hr') (fun j => by have := hl (j + 1); simpa [Nat.add_assoc, Nat.add_comm 1 j] using this) hB' hK)

/-- What closes waits, through others too, for each operation of kind 0. -/
def closeT (ops : Array Oper) (kd : Nat → Nat) : Bool :=
  (List.range ops.size).all fun e => kd e != 4 || (List.range ops.size).all fun j => kd j != 0 || waitsT ops ops.size e j

theorem closeT_spec {kd : Nat → Nat} (h : closeT ops kd = true) {e j : Nat} {oe oj : Oper} (he : ops[e]? = some oe) (hj' : ops[j]? = some oj) (h4 : kd e = 4) (h0 : kd j = 0) : waitsT ops ops.size e j = true := by
  have hes : e < ops.size := (Array.getElem?_eq_some_iff.1 he).1
  have hjs : j < ops.size := (Array.getElem?_eq_some_iff.1 hj').1
  have a1 := List.all_eq_true.1 h e (List.mem_range.2 hes)
  simp only [Bool.or_eq_true, bne_iff_ne, ne_eq, h4, not_true_eq_false, false_or] at a1
  have a2 := List.all_eq_true.1 a1 j (List.mem_range.2 hjs)
  simpa [h0] using a2

theorem wpAnyIn_of_wpST {r : Option Nat} {n : Nat} {kd : Nat → Nat} {Q : Act → World → Prop} {Q' : Exit → Act → World → Prop} (hd : noDeferB ops = true) (hcl : closeT ops kd = true) (hQ : ∀ a w, Q a w → ∀ w', R w w' → Q' .normal a w') :
    ∀ (fuel : Nat) (listed : Array Bool) (a : Act) (w : World), Shut ops listed → wpS P ops R C kd Q fuel listed a w → (pends ops kd listed → C w) → ∀ w', R w w' → wpAnyIn (FW r) n P .any ops Q' fuel listed a w'
  | 0, _, a, w, _, h, _, w', hw => ⟨h.1, hQ a w h.2 w' hw⟩
  | fuel + 1, listed, a, w, hS, h, hC, w', hw => by
    refine ⟨fun h0 => hQ a w (h.1 h0) w' hw, fun i hi => ?_⟩
    have hs := h.2 i hi
    have ih := fun a2 w2 hk => wpAnyIn_of_wpST (r := r) (n := n) (kd := kd) hd hcl hQ fuel (listed.setIfInBounds i true) a2 w2 (hS.set hi) hk
    unfold stepS at hs
    unfold wpOpIn
    cases ho : ops[i]? with
    | none =>
      simp only [ho] at hs ⊢
      exact ih _ _ hs (fun hp => hC (pends_less hp)) _ hw
    | some o =>
      simp only [ho] at hs ⊢
      obtain ⟨v, w2, hy, hK⟩ := hs
      have hsem : Oper.semAt (FW r).round a.eval o = execOp a.eval o := Oper.semAt_eq _ _ _ fun c => noDefer_spec hd i o c ho
      rcases hy with ⟨hwd, h0, _, hk4, h1⟩ | ⟨hwd, hv, he⟩
      · rw [if_pos hwd]
        have hC2 : pends ops kd (listed.setIfInBounds i true) → C w2 := fun hp => by
          by_cases h4 : kd i = 4
          · obtain ⟨j, oj, hj1, hj2, hj3⟩ := pends_less hp
            exact (not_bothT hS hj3 hi (closeT_spec hcl ho hj1 h4 hj2)).elim
          · exact hk4 h4 (hC (pends_less hp))
        refine ⟨about_FW _ _ _ _, ?_⟩
        rw [hsem]
        by_cases hk : kd i = 0
        · obtain ⟨rfl, h2⟩ := h0 hk
          rw [h2 _ w' (hC ⟨i, o, ho, hk, (mem_ready.1 hi).1⟩) hw]
          exact ih _ _ hK hC2 _ hw
        · have h2 := h1 hk w' hw
          unfold leftBy at h2
          split at h2
          · rename_i u w'' heq
            rw [heq]
            obtain ⟨rfl, h3⟩ := h2
            exact ih _ _ hK hC2 _ h3
          · rename_i w'' heq
            rw [heq]
            obtain ⟨rfl, h3⟩ := h2
            exact ih _ _ hK hC2 _ h3
          · rename_i f args w'' heq
            rw [heq]
            refine ⟨fun h => by simp [FW] at h, callsIn_FW (h2.mono ?_)⟩
            rintro e w3 ⟨rfl, h3⟩
            exact ih _ _ hK hC2 _ h3
          · exact h2.elim
      · rw [if_neg (by simp [hwd])]
        subst hv
        subst he
        exact ⟨about_FW _ _ _ _, ih _ _ hK (fun hp => hC (pends_less hp)) _ hw⟩

/-- **One walk in the order of the text serves every order**, also where calls make memory and where the last operations store. -/
theorem wpIn_flowST {r : Option Nat} {n id : Nat} {Q : Exit → Act → World → Prop} {a : Act} {w : World} {l : List Oper} (kd : Nat → Nat) (R : World → World → Prop) (C : World → Prop) (w1 : World) (h0 : R w1 w.drew) (h00 : C w1) (hm : P.follows .mixedOrders = true)
    (hB : (Region.lexB .any l.toArray && orderT l.toArray kd && noDeferB l.toArray && closeT l.toArray kd) = true) (h : flowS P l.toArray R C kd (fun a' w2 => ∀ w', R w2 w' → Q .normal a' w') 0 l a w1) : (Code.region id l.toArray true).wpIn (FW r) n P Q a w := by
  simp only [Bool.and_eq_true] at hB
  obtain ⟨⟨⟨hB, hE⟩, hd⟩, hcl⟩ := hB
  simp only [Region.lexB, Bool.and_eq_true] at hB
  refine wpIn_region_any hm ?_
  have H := wpS_lexT (P := P) (R := R) (kd := kd) hB.1 hE l 0 (Array.replicate l.toArray.size false) a w1 (Shut.none _) (by simp) (by simpa using hB.2) h
  have := wpAnyIn_of_wpST (r := r) (n := n) (Q' := Q) hd hcl (fun a' w2 hq w' hw => hq w' hw) _ _ _ _ (Shut.none _) H (fun _ => h00) w.drew h0
  simpa using this

theorem wp_flowST {id : Nat} {Q : Exit → Act → World → Prop} {a : Act} {w : World} {l : List Oper} (kd : Nat → Nat) (R : World → World → Prop) (C : World → Prop) (w1 : World) (h0 : R w1 w.drew) (h00 : C w1) (hm : P.follows .mixedOrders = true)
    (hB : (Region.lexB .any l.toArray && orderT l.toArray kd && noDeferB l.toArray && closeT l.toArray kd) = true) (h : flowS P l.toArray R C kd (fun a' w2 => ∀ w', R w2 w' → Q .normal a' w') 0 l a w1) : (Code.region id l.toArray true).wp P Q a w :=
  wpIn_wide.1 (show (Code.region id l.toArray true).wpIn Fence.wide 0 P Q a w from wpIn_flowST (r := none) kd R C w1 h0 h00 hm hB h)

end flow6
end Go.Proofs.YtijidnhaijdfaaaGreatDoor

/- A region whose order of evaluation is left open, whose operations may yield one of many values, and in which last operations may turn what others have read: walked once in the order of the text. Conditions: none. -/
namespace Go.Proofs.YtijidnhaijdfaaaGreatDoor
open Go.RowKit

section flow7
variable {P : Program} {ops : Array Oper} {σ : Type} {R : σ → World → Prop} {C : σ → Prop}

/-- What an operation leaves. -/
def leaves (P : Program) (B : Value → World → Prop) : Result Next → Prop
  | .ok (.value u) w => B u w
  | .ok .skip w => B undef w
  | .ok (.enter f args) w => Calls P f args w fun e w' => ∃ u, e = .returned u ∧ B u w'
  | _ => False

/-- Kind 0: the operation yields v as long as anything of kind 0 is to come. Kind 1: it yields v in this state. From kind 2 on: it yields one of many values and leaves a state that fits it. -/
def YU (P : Program) (ops : Array Oper) (R : σ → World → Prop) (C : σ → Prop) (k : Nat) (o : Oper) (a : Act) (s : σ) (K : Value → σ → Prop) : Prop :=
  (Region.wanted o (yielded ops a.tmps) = true ∧
    ((k = 0 ∧ ∃ v, (∀ s0 w', C s0 → R s0 w' → (execOp a.eval o).run P w' = .ok (.value v) w') ∧ K v s) ∨
     (k = 1 ∧ ∃ v, (∀ w', R s w' → (execOp a.eval o).run P w' = .ok (.value v) w') ∧ K v s) ∨
     (2 ≤ k ∧ ∃ Ψ : Value → σ → Prop, (∃ v s2, Ψ v s2) ∧ (∀ w', R s w' → leaves P (fun v w2 => ∃ s2, Ψ v s2 ∧ R s2 w2) ((execOp a.eval o).run P w')) ∧ (k ≠ 4 → C s → ∀ v s2, Ψ v s2 → C s2) ∧ ∀ v s2, Ψ v s2 → K v s2))) ∨
  (Region.wanted o (yielded ops a.tmps) = false ∧ K undef s)

theorem YU.mono {k : Nat} {o : Oper} {a : Act} {s : σ} {K K' : Value → σ → Prop} (h : YU P ops R C k o a s K) (hK : ∀ v s2, K v s2 → K' v s2) : YU P ops R C k o a s K' := by
  rcases h with ⟨hw, ⟨h0, v, h1, h2⟩ | ⟨h0, v, h1, h2⟩ | ⟨h0, Ψ, h1, h2, h3, h4⟩⟩ | ⟨hw, h⟩
  · exact .inl ⟨hw, .inl ⟨h0, v, h1, hK _ _ h2⟩⟩
  · exact .inl ⟨hw, .inr (.inl ⟨h0, v, h1, hK _ _ h2⟩)⟩
  · exact .inl ⟨hw, .inr (.inr ⟨h0, Ψ, h1, h2, h3, fun v s2 h => hK _ _ (h4 v s2 h)⟩)⟩
  · exact .inr ⟨hw, hK _ _ h⟩

theorem YU.some {k : Nat} {o : Oper} {a : Act} {s : σ} {K : Value → σ → Prop} (h : YU P ops R C k o a s K) : ∃ v s2, K v s2 := by
  rcases h with ⟨hw, ⟨h0, v, h1, h2⟩ | ⟨h0, v, h1, h2⟩ | ⟨h0, Ψ, ⟨v, s2, h1⟩, h2, h3, h4⟩⟩ | ⟨hw, h⟩
  · exact ⟨_, _, h2⟩
  · exact ⟨_, _, h2⟩
  · exact ⟨_, _, h4 _ _ h1⟩
  · exact ⟨_, _, h⟩

theorem YU_put {k : Nat} {oi : Oper} {a : Act} {s : σ} {K : Value → σ → Prop} {dst : Option Tmp} (u : Value) (hs : ∀ cs b, oi.op ≠ .select cs b) (h : ∀ d, dst = some d → d ∉ oi.looksAt ops) :
    YU P ops R C k oi (a.put dst u) s K ↔ YU P ops R C k oi a s K := by
  unfold YU
  rw [execOp_put oi hs a dst u h, wanted_put oi a dst u h]

def stepU (P : Program) (ops : Array Oper) (R : σ → World → Prop) (C : σ → Prop) (kd : Nat → Nat) (i : Nat) (K : Act → σ → Prop) (a : Act) (s : σ) : Prop :=
  match ops[i]? with
  | none => K a s
  | some o => YU P ops R C (kd i) o a s fun v s2 => K (a.put o.dst v) s2

def wpU (P : Program) (ops : Array Oper) (R : σ → World → Prop) (C : σ → Prop) (kd : Nat → Nat) (Q : Act → σ → Prop) : Nat → Array Bool → Act → σ → Prop
  | 0, listed, a, s => Region.ready .any ops listed = [] ∧ Q a s
  | fuel + 1, listed, a, s =>
    (Region.ready .any ops listed = [] → Q a s) ∧
    ∀ i ∈ Region.ready .any ops listed, stepU P ops R C kd i (wpU P ops R C kd Q fuel (listed.setIfInBounds i true)) a s

def flowU (P : Program) (ops : Array Oper) (R : σ → World → Prop) (C : σ → Prop) (kd : Nat → Nat) (Q : Act → σ → Prop) : Nat → List Oper → Act → σ → Prop
  | _, [], a, s => Q a s
  | k, o :: rest, a, s => YU P ops R C (kd k) o a s fun v s2 => flowU P ops R C kd Q (k + 1) rest (a.put o.dst v) s2

theorem wpU_first {kd : Nat → Nat} {Q : Act → σ → Prop} {i : Nat} {oi : Oper} (hi : ops[i]? = some oi) (hsel : ∀ (j : Nat) (o : Oper) cs b, ops[j]? = some o → o.op ≠ .select cs b)
    (hE : orderT ops kd = true) (hne : ∃ s0 w0, C s0 ∧ R s0 w0) : ∀ (fuel : Nat) (listed : Array Bool) (a : Act) (s : σ), Shut ops listed →
      (∀ j oj, ops[j]? = some oj → j ≠ i → listed.getD j true = false → (∀ e ∈ oj.after, Region.binds .any e = true → e.on ≠ i) → oi.apart ops oj = true) →
      i ∈ Region.ready .any ops listed → YU P ops R C (kd i) oi a s (fun v s2 => wpU P ops R C kd Q fuel (listed.setIfInBounds i true) (a.put oi.dst v) s2) → wpU P ops R C kd Q (fuel + 1) listed a s := by
  intro fuel
  induction fuel with
  | zero =>
    intro listed a s _ _ hr hy
    refine ⟨fun h => (by rw [h] at hr; cases hr), fun j hj => ?_⟩
    by_cases hji : j = i
    · subst hji
      unfold stepU
      simp only [hi]
      exact hy
    · obtain ⟨v, s2, H⟩ := hy.some
      have := ready_mono hj hji
      rw [H.1] at this
      cases this
  | succ fuel ih =>
    intro listed a s hS hfree hr hy
    refine ⟨fun h => (by rw [h] at hr; cases hr), fun j hj => ?_⟩
    by_cases hji : j = i
    · subst hji
      unfold stepU
      simp only [hi]
      exact hy
    · have hiun := (mem_ready.1 hr).1
      obtain ⟨hjun, oj, hoj, hall⟩ := mem_ready.1 hj
      have hnot : ∀ e ∈ oj.after, Region.binds .any e = true → e.on ≠ i := fun e he hb heq => by
        have h2 := hall e he hb
        rw [heq] at h2
        exact unlisted hiun h2
      obtain ⟨p1, p2, p3⟩ := Oper.apart_spec (hfree j oj hoj hji hjun hnot)
      have hfree' : ∀ k ok, ops[k]? = some ok → k ≠ i → (listed.setIfInBounds j true).getD k true = false →
          (∀ e ∈ ok.after, Region.binds .any e = true → e.on ≠ i) → oi.apart ops ok = true := fun k ok hk hki hun hno => by
        refine hfree k ok hk hki ?_ hno
        by_cases hjk : j = k
        · subst hjk; exact hjun
        · rw [getD_set_ne true hjk] at hun; exact hun
      have hr' := ready_mono hr (Ne.symm hji)
      have hS' := hS.set hj
      have sel_i := fun cs b => hsel i oi cs b hi
      have sel_j := fun cs b => hsel j oj cs b hoj
      -- what the step of j gives behind i
      have after : ∀ v s2, wpU P ops R C kd Q (fuel + 1) (listed.setIfInBounds i true) (a.put oi.dst v) s2 →
          YU P ops R C (kd j) oj a s2 fun u s3 => wpU P ops R C kd Q fuel ((listed.setIfInBounds j true).setIfInBounds i true) ((a.put oj.dst u).put oi.dst v) s3 := fun v s2 H => by
        have h1 := H.2 j (ready_mono hj hji)
        unfold stepU at h1
        simp only [hoj] at h1
        have h1 := (YU_put v sel_j p1).1 h1
        refine h1.mono fun u s3 h => ?_
        rwa [Array.setIfInBounds_comm _ _ (Ne.symm hji), Act.put_comm a v u p2] at h
      unfold stepU
      simp only [hoj]
      -- i behind j, at a value of j
      have behind : ∀ u s3, YU P ops R C (kd i) oi a s3 (fun v s2 => wpU P ops R C kd Q fuel ((listed.setIfInBounds j true).setIfInBounds i true) ((a.put oj.dst u).put oi.dst v) s2) →
          wpU P ops R C kd Q (fuel + 1) (listed.setIfInBounds j true) (a.put oj.dst u) s3 := fun u s3 h =>
        ih _ _ _ hS' hfree' hr' ((YU_put u sel_i p3).2 h)
      rcases hy with ⟨hwi, hy⟩ | ⟨hwi, hy⟩
      · rcases hy with ⟨ki, v, hv, H⟩ | ⟨ki, v, hv, H⟩ | ⟨ki, Ψ, hΨ, hrun, hC, H⟩
        · refine (after v s H).mono fun u s3 h => behind u s3 (.inl ⟨hwi, .inl ⟨ki, v, hv, h⟩⟩)
        · rcases after v s H with ⟨hwj, hj1 | hj1 | hj1⟩ | ⟨hwj, hj1⟩
          · obtain ⟨kj, u, hu, h⟩ := hj1
            exact .inl ⟨hwj, .inl ⟨kj, u, hu, behind u s (.inl ⟨hwi, .inr (.inl ⟨ki, v, hv, h⟩)⟩)⟩⟩
          · obtain ⟨kj, u, hu, h⟩ := hj1
            exact .inl ⟨hwj, .inr (.inl ⟨kj, u, hu, behind u s (.inl ⟨hwi, .inr (.inl ⟨ki, v, hv, h⟩)⟩)⟩)⟩
          · obtain ⟨kj, _⟩ := hj1
            rcases orderT_spec hE hoj hi (by omega) (by omega) (by omega) (Ne.symm hji) with h | h
            · exact (not_bothT hS hiun hj h).elim
            · exact (not_bothT hS hjun hr h).elim
          · exact .inr ⟨hwj, behind undef s (.inl ⟨hwi, .inr (.inl ⟨ki, v, hv, hj1⟩)⟩)⟩
        · by_cases kj : kd j = 0
          · obtain ⟨v0, s0, h0⟩ := hΨ
            rcases after v0 s0 (H v0 s0 h0) with ⟨hwj, hj1⟩ | ⟨hwj, hj1⟩
            · rcases hj1 with ⟨_, u, hu, _⟩ | ⟨k1, _⟩ | ⟨k2, _⟩
              · refine .inl ⟨hwj, .inl ⟨kj, u, hu, behind u s (.inl ⟨hwi, .inr (.inr ⟨ki, Ψ, ⟨v0, s0, h0⟩, hrun, hC, fun v s2 hv => ?_⟩)⟩)⟩⟩
                rcases after v s2 (H v s2 hv) with ⟨_, ⟨_, u', hu', h'⟩ | ⟨k1, _⟩ | ⟨k2, _⟩⟩ | ⟨hwj', _⟩
                · obtain ⟨sw, ww, hcw, hrw⟩ := hne
                  have e1 := hu sw ww hcw hrw
                  rw [hu' sw ww hcw hrw] at e1
                  injection e1 with e1
                  injection e1 with e1
                  rw [← e1]
                  exact h'
                · omega
                · omega
                · rw [hwj] at hwj'
                  cases hwj'
              · omega
              · omega
            · refine .inr ⟨hwj, behind undef s (.inl ⟨hwi, .inr (.inr ⟨ki, Ψ, ⟨v0, s0, h0⟩, hrun, hC, fun v s2 hv => ?_⟩)⟩)⟩
              rcases after v s2 (H v s2 hv) with ⟨hwj', _⟩ | ⟨_, h'⟩
              · rw [hwj] at hwj'
                cases hwj'
              · exact h'
          · rcases orderT_spec hE hi hoj (by omega) (by omega) kj hji with h | h
            · exact (not_bothT hS hjun hr h).elim
            · exact (not_bothT hS hiun hj h).elim
      · refine (after undef s hy).mono fun u s3 h => behind u s3 (.inr ⟨hwi, h⟩)

theorem wpU_lex {kd : Nat → Nat} {Q : Act → σ → Prop} (hs : Region.noSelect ops = true) (hE : orderT ops kd = true) (hne : ∃ s0 w0, C s0 ∧ R s0 w0) : ∀ (l : List Oper) (k : Nat) (listed : Array Bool) (a : Act) (s : σ), Shut ops listed → (∀ j, l[j]? = ops[k + j]?) →
    Region.lexFrom .any ops l.length k listed = true → flowU P ops R C kd Q k l a s → wpU P ops R C kd Q l.length listed a s
  | [], _, _, _, _, _, _, hB, h => ⟨by simpa [Region.lexFrom] using hB, h⟩
  | o :: l, k, listed, a, s, hS, hl, hB, h => by
    have h0 : ops[k]? = some o := by simpa using (hl 0).symm
    simp only [List.length_cons, Region.lexFrom, Bool.and_eq_true] at hB
    obtain ⟨⟨hr, hf⟩, hB'⟩ := hB
    have hr' : k ∈ Region.ready .any ops listed := by simpa using hr
    refine wpU_first h0 (Region.noSelect_spec hs) hE hne l.length listed a s hS (Region.free_spec h0 hf) hr' (YU.mono h fun v s2 hK => ?_)
    exact wpU_lex hs hE hne l (k + 1) _ _ s2 (hS.set hr') (fun j => by have := hl (j + 1); simpa [Nat.add_assoc, Nat.add_comm 1 j] using this) hB' hK

theorem wpAnyIn_of_wpU {r : Option Nat} {n : Nat} {kd : Nat → Nat} {Q : Act → σ → Prop} {Q' : Exit → Act → World → Prop} (hd : noDeferB ops = true) (hcl : closeT ops kd = true) (hQ : ∀ a s, Q a s → ∀ w', R s w' → Q' .normal a w') :
    ∀ (fuel : Nat) (listed : Array Bool) (a : Act) (s : σ), Shut ops listed → wpU P ops R C kd Q fuel listed a s → (pends ops kd listed → C s) → ∀ w', R s w' → wpAnyIn (FW r) n P .any ops Q' fuel listed a w'
  | 0, _, a, s, _, h, _, w', hw => ⟨h.1, hQ a s h.2 w' hw⟩
  | fuel + 1, listed, a, s, hS, h, hC, w', hw => by
    refine ⟨fun h0 => hQ a s (h.1 h0) w' hw, fun i hi => ?_⟩
    have hs := h.2 i hi
    have ih := fun a2 s2 hk => wpAnyIn_of_wpU (r := r) (n := n) (kd := kd) hd hcl hQ fuel (listed.setIfInBounds i true) a2 s2 (hS.set hi) hk
    unfold stepU at hs
    unfold wpOpIn
    cases ho : ops[i]? with
    | none =>
      simp only [ho] at hs ⊢
      exact ih _ _ hs (fun hp => hC (pends_less hp)) _ hw
    | some o =>
      simp only [ho] at hs ⊢
      have hsem : Oper.semAt (FW r).round a.eval o = execOp a.eval o := Oper.semAt_eq _ _ _ fun c => noDefer_spec hd i o c ho
      rcases hs with ⟨hwd, hs⟩ | ⟨hwd, hs⟩
      · rw [if_pos hwd]
        refine ⟨about_FW _ _ _ _, ?_⟩
        rw [hsem]
        rcases hs with ⟨hk, v, hv, hK⟩ | ⟨hk, v, hv, hK⟩ | ⟨hk, Ψ, _, hrun, hC2, hK⟩
        · rw [hv s w' (hC ⟨i, o, ho, hk, (mem_ready.1 hi).1⟩) hw]
          exact ih _ _ hK (fun hp => hC (pends_less hp)) _ hw
        · rw [hv w' hw]
          exact ih _ _ hK (fun hp => hC (pends_less hp)) _ hw
        · have hCn : ∀ v s2, Ψ v s2 → pends ops kd (listed.setIfInBounds i true) → C s2 := fun v s2 hv hp => by
            by_cases h4 : kd i = 4
            · obtain ⟨j, oj, hj1, hj2, hj3⟩ := pends_less hp
              exact (not_bothT hS hj3 hi (closeT_spec hcl ho hj1 h4 hj2)).elim
            · exact hC2 h4 (hC (pends_less hp)) v s2 hv
          have h2 := hrun w' hw
          unfold leaves at h2
          split at h2
          · rename_i u w'' heq
            rw [heq]
            obtain ⟨s2, hv, hR⟩ := h2
            exact ih _ _ (hK _ _ hv) (hCn _ _ hv) _ hR
          · rename_i w'' heq
            rw [heq]
            obtain ⟨s2, hv, hR⟩ := h2
            exact ih _ _ (hK _ _ hv) (hCn _ _ hv) _ hR
          · rename_i f args w'' heq
            rw [heq]
            refine ⟨fun h => by simp [FW] at h, callsIn_FW (h2.mono ?_)⟩
            rintro e w3 ⟨u, rfl, s2, hv, hR⟩
            exact ih _ _ (hK _ _ hv) (hCn _ _ hv) _ hR
          · exact h2.elim
      · rw [if_neg (by simp [hwd])]
        exact ⟨about_FW _ _ _ _, ih _ _ hs (fun hp => hC (pends_less hp)) _ hw⟩

/-- **One walk in the order of the text serves every order**, values that nobody knows and last operations included. -/
theorem wpIn_flowU {r : Option Nat} {n id : Nat} {Q : Exit → Act → World → Prop} {a : Act} {w : World} {l : List Oper} (kd : Nat → Nat) (R : σ → World → Prop) (C : σ → Prop) (s : σ) (h0 : R s w.drew) (h00 : C s) (hm : P.follows .mixedOrders = true)
    (hB : (Region.lexB .any l.toArray && orderT l.toArray kd && noDeferB l.toArray && closeT l.toArray kd) = true) (h : flowU P l.toArray R C kd (fun a' s2 => ∀ w', R s2 w' → Q .normal a' w') 0 l a s) : (Code.region id l.toArray true).wpIn (FW r) n P Q a w := by
  simp only [Bool.and_eq_true] at hB
  obtain ⟨⟨⟨hB, hE⟩, hd⟩, hcl⟩ := hB
  simp only [Region.lexB, Bool.and_eq_true] at hB
  refine wpIn_region_any hm ?_
  have H := wpU_lex (P := P) (R := R) (C := C) (kd := kd) hB.1 hE ⟨s, _, h00, h0⟩ l 0 (Array.replicate l.toArray.size false) a s (Shut.none _) (by simp) (by simpa using hB.2) h
  have := wpAnyIn_of_wpU (r := r) (n := n) (Q' := Q) hd hcl (fun a' s2 hq w' hw => hq w' hw) _ _ _ _ (Shut.none _) H (fun _ => h00) w.drew h0
  simpa using this

theorem wp_flowU {id : Nat} {Q : Exit → Act → World → Prop} {a : Act} {w : World} {l : List Oper} (kd : Nat → Nat) (R : σ → World → Prop) (C : σ → Prop) (s : σ) (h0 : R s w.drew) (h00 : C s) (hm : P.follows .mixedOrders = true)
    (hB : (Region.lexB .any l.toArray && orderT l.toArray kd && noDeferB l.toArray && closeT l.toArray kd) = true) (h : flowU P l.toArray R C kd (fun a' s2 => ∀ w', R s2 w' → Q .normal a' w') 0 l a s) : (Code.region id l.toArray true).wp P Q a w :=
  wpIn_wide.1 (show (Code.region id l.toArray true).wpIn Fence.wide 0 P Q a w from wpIn_flowU (r := none) kd R C s h0 h00 hm hB h)

theorem flowU_nil {kd : Nat → Nat} {Q : Act → σ → Prop} {k : Nat} {a : Act} {s : σ} (h : Q a s) : flowU P ops R C kd Q k [] a s := h

/-- Kind 0. -/
theorem flowU_late {kd : Nat → Nat} {Q : Act → σ → Prop} {k : Nat} {a : Act} {s : σ} {o : Oper} {rest : List Oper} (v : Value) (hk : kd k = 0) (hw : Region.wanted o (yielded ops a.tmps) = true)
    (h1 : ∀ s0 w', C s0 → R s0 w' → (execOp a.eval o).run P w' = .ok (.value v) w') (h : ∀ K : Act → Prop, (∀ a', flowU P ops R C kd Q (k + 1) rest a' s → K a') → K (a.put o.dst v)) : flowU P ops R C kd Q k (o :: rest) a s :=
  .inl ⟨hw, .inl ⟨hk, v, h1, h _ fun _ h => h⟩⟩
/-- Kind 1. -/
theorem flowU_read {kd : Nat → Nat} {Q : Act → σ → Prop} {k : Nat} {a : Act} {s : σ} {o : Oper} {rest : List Oper} (v : Value) (hk : kd k = 1) (hw : Region.wanted o (yielded ops a.tmps) = true)
    (h1 : ∀ w', R s w' → (execOp a.eval o).run P w' = .ok (.value v) w') (h : ∀ K : Act → Prop, (∀ a', flowU P ops R C kd Q (k + 1) rest a' s → K a') → K (a.put o.dst v)) : flowU P ops R C kd Q k (o :: rest) a s :=
  .inl ⟨hw, .inr (.inl ⟨hk, v, h1, h _ fun _ h => h⟩)⟩
/-- Kind 2, and 4 for the last. -/
theorem flowU_step {kd : Nat → Nat} {Q : Act → σ → Prop} {k : Nat} {a : Act} {s : σ} {o : Oper} {rest : List Oper} (Ψ : Value → σ → Prop) (hk : 2 ≤ kd k) (hw : Region.wanted o (yielded ops a.tmps) = true) (hΨ : ∃ v s2, Ψ v s2)
    (h1 : ∀ w', R s w' → leaves P (fun v w2 => ∃ s2, Ψ v s2 ∧ R s2 w2) ((execOp a.eval o).run P w')) (hC : kd k ≠ 4 → C s → ∀ v s2, Ψ v s2 → C s2)
    (h : ∀ K : Act → σ → Prop, (∀ a' s', flowU P ops R C kd Q (k + 1) rest a' s' → K a' s') → ∀ v s2, Ψ v s2 → K (a.put o.dst v) s2) : flowU P ops R C kd Q k (o :: rest) a s :=
  .inl ⟨hw, .inr (.inr ⟨hk, Ψ, hΨ, h1, hC, h _ fun _ _ h => h⟩)⟩
end flow7
end Go.Proofs.YtijidnhaijdfaaaGreatDoor

/- What waits for what in a region, in one table: for regions of many operations. Conditions: none. -/
namespace Go.Proofs.YtijidnhaijdfaaaGreatDoor
open Go.RowKit
set_option linter.unusedVariables false

section
variable {P : Program} {ops : Array Oper} {σ : Type} {R : σ → World → Prop} {C : σ → Prop}

theorem waitsT_succ : ∀ (n j i : Nat), waitsT ops n j i = true → waitsT ops (n + 1) j i = true
  | 0, j, i, h => by
    show (waitsB ops j i || _) = true
    rw [show waitsB ops j i = true from h]
    rfl
  | n + 1, j, i, h => by
    have h' : (waitsB ops j i || match ops[j]? with
      | some oj => oj.after.any fun e => Region.binds .any e && waitsT ops n e.on i
      | none => false) = true := h
    show (waitsB ops j i || match ops[j]? with
      | some oj => oj.after.any fun e => Region.binds .any e && waitsT ops (n + 1) e.on i
      | none => false) = true
    rw [Bool.or_eq_true] at h' ⊢
    rcases h' with h' | h'
    · exact .inl h'
    · refine .inr ?_
      split at h'
      · rename_i oj hj
        obtain ⟨e, he, hb⟩ := Array.any_eq_true'.1 h'
        simp only [Bool.and_eq_true] at hb
        refine Array.any_eq_true'.2 ⟨e, he, ?_⟩
        simp only [Bool.and_eq_true]
        exact ⟨hb.1, waitsT_succ n e.on i hb.2⟩
      · cases h'
theorem waitsT_le {n m j i : Nat} (hnm : n ≤ m) (h : waitsT ops n j i = true) : waitsT ops m j i = true := by
  induction m with
  | zero =>
    obtain rfl : n = 0 := by omega
    exact h
  | succ m ih =>
    rcases Nat.lt_or_ge m n with hl | hl
    · obtain rfl : n = m + 1 := by omega
      exact h
    · exact waitsT_succ m j i (ih hl)

/-- A number, worked out first. -/
def forceN (n : Nat) (f : Nat → Bool) : Bool := Nat.rec (motive := fun _ => Bool) (f 0) (fun m _ => f (m + 1)) n
theorem forceN_eq (n : Nat) (f : Nat → Bool) : forceN n f = f n := by cases n <;> rfl
/-- What operation k waits for, as bits; T: the rows of those ahead of it, the last first. -/
def rowM (ops : Array Oper) (T : List Nat) (k : Nat) : Nat := match ops[k]? with
  | some o => o.after.toList.foldl (fun acc e => if (Region.binds .any e && decide (e.on < k)) = true then acc ||| (2 ^ e.on ||| T.getD (k - 1 - e.on) 0) else acc) 0
  | none => 0
def goM (ops : Array Oper) (fin : List Nat → Bool) : Nat → Nat → List Nat → Bool
  | 0, _, T => fin T
  | f + 1, k, T => forceN (rowM ops T k) fun r => goM ops fin f (k + 1) (r :: T)
def orderM (kd : Nat → Nat) (n : Nat) (T : List Nat) : Bool :=
  (List.range n).all fun e => kd e == 0 || kd e == 1 || forceN (T.getD (n - 1 - e) 0) fun r => (List.range n).all fun j => kd j == 0 || j == e || (decide (j < e) && r.testBit j) || (decide (e < j) && (T.getD (n - 1 - j) 0).testBit e)
def closeM (kd : Nat → Nat) (n : Nat) (T : List Nat) : Bool :=
  (List.range n).all fun e => kd e != 4 || forceN (T.getD (n - 1 - e) 0) fun r => (List.range n).all fun j => kd j != 0 || r.testBit j
def GoodT (ops : Array Oper) (T : List Nat) (k : Nat) : Prop := ∀ j, j < k → ∀ i, (T.getD (k - 1 - j) 0).testBit i = true → waitsT ops j j i = true

theorem row_fold {T : List Nat} {k i : Nat} : ∀ (l : List Edge) (acc : Nat), (l.foldl (fun acc e => if (Region.binds .any e && decide (e.on < k)) = true then acc ||| (2 ^ e.on ||| T.getD (k - 1 - e.on) 0) else acc) acc).testBit i = true →
    acc.testBit i = true ∨ ∃ e ∈ l, Region.binds .any e = true ∧ e.on < k ∧ (e.on = i ∨ (T.getD (k - 1 - e.on) 0).testBit i = true)
  | [], acc, h => .inl h
  | e :: l, acc, h => by
    rw [List.foldl_cons] at h
    rcases row_fold l _ h with h | ⟨e', he', h'⟩
    · split at h
      · rename_i hb
        simp only [Bool.and_eq_true, decide_eq_true_eq] at hb
        simp only [Nat.testBit_or, Nat.testBit_two_pow, Bool.or_eq_true, decide_eq_true_eq] at h
        rcases h with h | h | h
        · exact .inl h
        · exact .inr ⟨e, List.mem_cons_self .., hb.1, hb.2, .inl h⟩
        · exact .inr ⟨e, List.mem_cons_self .., hb.1, hb.2, .inr h⟩
      · exact .inl h
    · exact .inr ⟨e', List.mem_cons_of_mem _ he', h'⟩
theorem row_good {T : List Nat} {k : Nat} (hT : GoodT ops T k) {i : Nat} (h : (rowM ops T k).testBit i = true) : waitsT ops k k i = true := by
  unfold rowM at h
  split at h
  · rename_i o ho
    rcases row_fold _ _ h with h | ⟨e, he, hb, hlt, hx⟩
    · simp at h
    · obtain ⟨k', rfl⟩ : ∃ k', k = k' + 1 := ⟨k - 1, by omega⟩
      show (waitsB ops (k' + 1) i || match ops[k' + 1]? with
        | some oj => oj.after.any fun e => Region.binds .any e && waitsT ops k' e.on i
        | none => false) = true
      rw [ho, Bool.or_eq_true]
      have hm : e ∈ o.after := Array.mem_toList_iff.1 he
      rcases hx with hx | hx
      · refine .inl ?_
        unfold waitsB
        rw [ho]
        refine Array.any_eq_true'.2 ⟨e, hm, ?_⟩
        simp only [Bool.and_eq_true, beq_iff_eq]
        exact ⟨hb, hx⟩
      · refine .inr (Array.any_eq_true'.2 ⟨e, hm, ?_⟩)
        simp only [Bool.and_eq_true]
        exact ⟨hb, waitsT_le (by omega) (hT e.on hlt i hx)⟩
  · simp at h
theorem goM_good {fin : List Nat → Bool} : ∀ (f k : Nat) (T : List Nat), GoodT ops T k → goM ops fin f k T = true → ∃ T', GoodT ops T' (k + f) ∧ fin T' = true
  | 0, k, T, hT, h => ⟨T, hT, h⟩
  | f + 1, k, T, hT, h => by
    have h' : forceN (rowM ops T k) (fun r => goM ops fin f (k + 1) (r :: T)) = true := h
    rw [forceN_eq] at h'
    have := goM_good f (k + 1) _ (fun j hj i hi => by
      rcases Nat.lt_or_ge j k with hl | hl
      · rw [show k + 1 - 1 - j = (k - 1 - j) + 1 by omega, List.getD_cons_succ] at hi
        exact hT j hl i hi
      · obtain rfl : j = k := by omega
        rw [show j + 1 - 1 - j = 0 by omega, List.getD_cons_zero] at hi
        exact row_good hT hi) h'
    rw [show k + (f + 1) = k + 1 + f by omega]
    exact this
/-- The table's own test. -/
def flowM (ops : Array Oper) (kd : Nat → Nat) : Bool := goM ops (fun T => orderM kd ops.size T && closeM kd ops.size T) ops.size 0 []
theorem flowM_spec {kd : Nat → Nat} (h : flowM ops kd = true) : orderT ops kd = true ∧ closeT ops kd = true := by
  obtain ⟨T, hT, hf⟩ := goM_good _ _ _ (fun j hj => absurd hj (Nat.not_lt_zero _)) h
  rw [Nat.zero_add] at hT
  rw [Bool.and_eq_true] at hf
  constructor
  · unfold orderT
    have h1 := List.all_eq_true.1 hf.1
    refine List.all_eq_true.2 fun e he => ?_
    have h2 := h1 e he
    rw [forceN_eq] at h2
    rw [Bool.or_eq_true] at h2 ⊢
    rcases h2 with h2 | h2
    · exact .inl h2
    · refine .inr (List.all_eq_true.2 fun j hj => ?_)
      have h3 := List.all_eq_true.1 h2 j hj
      have hen := List.mem_range.1 he
      have hjn := List.mem_range.1 hj
      simp only [Bool.or_eq_true, Bool.and_eq_true, decide_eq_true_eq] at h3 ⊢
      rcases h3 with (h3 | h3) | h3
      · exact .inl (.inl h3)
      · exact .inl (.inr ⟨h3.1, waitsT_le (by omega) (hT e hen j h3.2)⟩)
      · exact .inr ⟨h3.1, waitsT_le (by omega) (hT j hjn e h3.2)⟩
  · unfold closeT
    have h1 := List.all_eq_true.1 hf.2
    refine List.all_eq_true.2 fun e he => ?_
    have h2 := h1 e he
    rw [forceN_eq] at h2
    rw [Bool.or_eq_true] at h2 ⊢
    rcases h2 with h2 | h2
    · exact .inl h2
    · refine .inr (List.all_eq_true.2 fun j hj => ?_)
      have h3 := List.all_eq_true.1 h2 j hj
      rw [Bool.or_eq_true] at h3 ⊢
      rcases h3 with h3 | h3
      · exact .inl h3
      · exact .inr (waitsT_le (by have := List.mem_range.1 he; omega) (hT e (List.mem_range.1 he) j h3))
theorem wp_flowM {id : Nat} {Q : Exit → Act → World → Prop} {a : Act} {w : World} {l : List Oper} (kd : Nat → Nat) (R : σ → World → Prop) (C : σ → Prop) (s : σ) (h0 : R s w.drew) (h00 : C s) (hm : P.follows .mixedOrders = true)
    (hB : (Region.lexB .any l.toArray && (noDeferB l.toArray && flowM l.toArray kd)) = true) (h : flowU P l.toArray R C kd (fun a' s2 => ∀ w', R s2 w' → Q .normal a' w') 0 l a s) : (Code.region id l.toArray true).wp P Q a w := by
  simp only [Bool.and_eq_true] at hB
  obtain ⟨h1, h2, h3⟩ := hB
  obtain ⟨h4, h5⟩ := flowM_spec h3
  exact wp_flowU kd R C s h0 h00 hm (by rw [h1, h4, h2, h5]; rfl) h
end
end Go.Proofs.YtijidnhaijdfaaaGreatDoor

/- A region whose order of evaluation is left open and in which effects that do not hang on each other may come in either order: walked once in the order of the text. Conditions: none. -/
namespace Go.Proofs.YtijidnhaijdfaaaGreatDoor
open Go.RowKit
set_option linter.unusedVariables false

section flow9
variable {P : Program} {ops : Array Oper} {σ : Type} {R : σ → World → Prop} {T : Nat → σ → Value → σ → Prop} {vs : Nat → σ → Value} {kd : Nat → Nat} {un : Nat → Nat → Bool}

theorem mem_un {p : Nat × Nat} {l : List (Nat × Nat)} (h : l.contains p = true) : p ∈ l := by simpa using h
/-- Effects that may come on either side of operation i leave E as it is. -/
def stays (T : Nat → σ → Value → σ → Prop) (kd : Nat → Nat) (un : Nat → Nat → Bool) (i : Nat) (E : σ → Prop) : Prop := ∀ j, un i j = true → 2 ≤ kd j → ∀ s v s1, T j s v s1 → (E s ↔ E s1)

/-- Kind 0: the operation yields vs i, wherever it stands among the effects that may come on either side. Kind 1: it yields v in this state. From kind 2 on: it does what T i says, wherever it stands. -/
def YW (P : Program) (ops : Array Oper) (R : σ → World → Prop) (T : Nat → σ → Value → σ → Prop) (vs : Nat → σ → Value) (kd : Nat → Nat) (un : Nat → Nat → Bool) (i : Nat) (o : Oper) (a : Act) (s : σ) (K : Value → σ → Prop) : Prop :=
  (Region.wanted o (yielded ops a.tmps) = true ∧
    ((kd i = 0 ∧ ∃ E : σ → Prop, E s ∧ stays T kd un i E ∧ (∀ s0 w', E s0 → R s0 w' → (execOp a.eval o).run P w' = .ok (.value (vs i s0)) w') ∧ K (vs i s) s) ∨
     (kd i = 1 ∧ ∃ v, (∀ w', R s w' → (execOp a.eval o).run P w' = .ok (.value v) w') ∧ K v s) ∨
     (2 ≤ kd i ∧ ∃ E : σ → Prop, E s ∧ stays T kd un i E ∧ (∃ v s2, T i s v s2) ∧ (∀ s0 w', E s0 → R s0 w' → leaves P (fun v w2 => ∃ s2, T i s0 v s2 ∧ R s2 w2) ((execOp a.eval o).run P w')) ∧ ∀ v s2, T i s v s2 → K v s2))) ∨
  (Region.wanted o (yielded ops a.tmps) = false ∧ K undef s)

theorem YW.mono {i : Nat} {o : Oper} {a : Act} {s : σ} {K K' : Value → σ → Prop} (h : YW P ops R T vs kd un i o a s K) (hK : ∀ v s2, K v s2 → K' v s2) : YW P ops R T vs kd un i o a s K' := by
  rcases h with ⟨hw, ⟨h0, E, h1, h2, h3, h4⟩ | ⟨h0, v, h1, h2⟩ | ⟨h0, E, h1, h2, h3, h4, h5⟩⟩ | ⟨hw, h⟩
  · exact .inl ⟨hw, .inl ⟨h0, E, h1, h2, h3, hK _ _ h4⟩⟩
  · exact .inl ⟨hw, .inr (.inl ⟨h0, v, h1, hK _ _ h2⟩)⟩
  · exact .inl ⟨hw, .inr (.inr ⟨h0, E, h1, h2, h3, h4, fun v s2 h => hK _ _ (h5 v s2 h)⟩)⟩
  · exact .inr ⟨hw, hK _ _ h⟩
theorem YW.some {i : Nat} {o : Oper} {a : Act} {s : σ} {K : Value → σ → Prop} (h : YW P ops R T vs kd un i o a s K) : ∃ v s2, K v s2 := by
  rcases h with ⟨hw, ⟨h0, E, h1, h2, h3, h4⟩ | ⟨h0, v, h1, h2⟩ | ⟨h0, E, h1, h2, ⟨v, s2, h3⟩, h4, h5⟩⟩ | ⟨hw, h⟩
  · exact ⟨_, _, h4⟩
  · exact ⟨_, _, h2⟩
  · exact ⟨_, _, h5 _ _ h3⟩
  · exact ⟨_, _, h⟩
theorem YW_put {i : Nat} {oi : Oper} {a : Act} {s : σ} {K : Value → σ → Prop} {dst : Option Tmp} (u : Value) (hs : ∀ cs b, oi.op ≠ .select cs b) (h : ∀ d, dst = some d → d ∉ oi.looksAt ops) :
    YW P ops R T vs kd un i oi (a.put dst u) s K ↔ YW P ops R T vs kd un i oi a s K := by
  unfold YW
  rw [execOp_put oi hs a dst u h, wanted_put oi a dst u h]

def stepW (P : Program) (ops : Array Oper) (R : σ → World → Prop) (T : Nat → σ → Value → σ → Prop) (vs : Nat → σ → Value) (kd : Nat → Nat) (un : Nat → Nat → Bool) (i : Nat) (K : Act → σ → Prop) (a : Act) (s : σ) : Prop :=
  match ops[i]? with
  | none => K a s
  | some o => YW P ops R T vs kd un i o a s fun v s2 => K (a.put o.dst v) s2
def wpW (P : Program) (ops : Array Oper) (R : σ → World → Prop) (T : Nat → σ → Value → σ → Prop) (vs : Nat → σ → Value) (kd : Nat → Nat) (un : Nat → Nat → Bool) (Q : Act → σ → Prop) : Nat → Array Bool → Act → σ → Prop
  | 0, listed, a, s => Region.ready .any ops listed = [] ∧ Q a s
  | fuel + 1, listed, a, s =>
    (Region.ready .any ops listed = [] → Q a s) ∧
    ∀ i ∈ Region.ready .any ops listed, stepW P ops R T vs kd un i (wpW P ops R T vs kd un Q fuel (listed.setIfInBounds i true)) a s
def flowW (P : Program) (ops : Array Oper) (R : σ → World → Prop) (T : Nat → σ → Value → σ → Prop) (vs : Nat → σ → Value) (kd : Nat → Nat) (un : Nat → Nat → Bool) (Q : Act → σ → Prop) : Nat → List Oper → Act → σ → Prop
  | _, [], a, s => Q a s
  | k, o :: rest, a, s => YW P ops R T vs kd un k o a s fun v s2 => flowW P ops R T vs kd un Q (k + 1) rest (a.put o.dst v) s2

/-- Each effect and any other operation stand in an order, or may come in either. -/
def orderW (ops : Array Oper) (kd : Nat → Nat) (un : Nat → Nat → Bool) : Bool :=
  (List.range ops.size).all fun e => kd e == 0 || kd e == 1 || (List.range ops.size).all fun j => j == e || (decide (j < e) && waitsT ops ops.size e j) || (decide (e < j) && waitsT ops ops.size j e) || (kd j != 1 && un e j && un j e)
theorem orderW_spec (h : orderW ops kd un = true) {e j : Nat} {oe oj : Oper} (he : ops[e]? = some oe) (hj' : ops[j]? = some oj) (h2 : 2 ≤ kd e) (hne : j ≠ e) :
    waitsT ops ops.size e j = true ∨ waitsT ops ops.size j e = true ∨ (kd j ≠ 1 ∧ un e j = true ∧ un j e = true) := by
  have hes : e < ops.size := (Array.getElem?_eq_some_iff.1 he).1
  have hjs : j < ops.size := (Array.getElem?_eq_some_iff.1 hj').1
  have a1 := List.all_eq_true.1 h e (List.mem_range.2 hes)
  have h0 : kd e ≠ 0 := by omega
  have h1 : kd e ≠ 1 := by omega
  simp only [Bool.or_eq_true, beq_iff_eq, h0, h1, false_or] at a1
  have a2 := List.all_eq_true.1 a1 j (List.mem_range.2 hjs)
  simp only [Bool.or_eq_true, beq_iff_eq, hne, false_or, Bool.and_eq_true, bne_iff_ne, ne_eq] at a2
  rcases a2 with (a2 | a2) | a2
  · exact .inl a2.2
  · exact .inr (.inl a2.2)
  · exact .inr (.inr ⟨a2.1.1, a2.1.2, a2.2⟩)

theorem wpW_first {Q : Act → σ → Prop} {i : Nat} {oi : Oper} (hi : ops[i]? = some oi) (hsel : ∀ (j : Nat) (o : Oper) cs b, ops[j]? = some o → o.op ≠ .select cs b)
    (hE : orderW ops kd un = true) (hdia : ∀ i j, un i j = true → 2 ≤ kd i → 2 ≤ kd j → ∀ s u s1 v s2, T j s u s1 → T i s1 v s2 → ∃ s3, T i s v s3 ∧ T j s3 u s2)
    (hcon : ∀ i j, un i j = true → 2 ≤ kd i → 2 ≤ kd j → ∀ s u s1 v s3, T j s u s1 → T i s v s3 → ∃ v' s2, T i s1 v' s2)
    (hvs : ∀ i j, un i j = true → kd i = 0 → 2 ≤ kd j → ∀ s v s1, T j s v s1 → vs i s1 = vs i s) : ∀ (fuel : Nat) (listed : Array Bool) (a : Act) (s : σ), Shut ops listed →
      (∀ j oj, ops[j]? = some oj → j ≠ i → listed.getD j true = false → (∀ e ∈ oj.after, Region.binds .any e = true → e.on ≠ i) → oi.apart ops oj = true) →
      i ∈ Region.ready .any ops listed → YW P ops R T vs kd un i oi a s (fun v s2 => wpW P ops R T vs kd un Q fuel (listed.setIfInBounds i true) (a.put oi.dst v) s2) → wpW P ops R T vs kd un Q (fuel + 1) listed a s := by
  intro fuel
  induction fuel with
  | zero =>
    intro listed a s _ _ hr hy
    refine ⟨fun h => (by rw [h] at hr; cases hr), fun j hj => ?_⟩
    by_cases hji : j = i
    · subst hji
      unfold stepW
      simp only [hi]
      exact hy
    · obtain ⟨v, s2, H⟩ := hy.some
      have := ready_mono hj hji
      rw [H.1] at this
      cases this
  | succ fuel ih =>
    intro listed a s hS hfree hr hy
    refine ⟨fun h => (by rw [h] at hr; cases hr), fun j hj => ?_⟩
    by_cases hji : j = i
    · subst hji
      unfold stepW
      simp only [hi]
      exact hy
    · have hiun := (mem_ready.1 hr).1
      obtain ⟨hjun, oj, hoj, hall⟩ := mem_ready.1 hj
      have hnot : ∀ e ∈ oj.after, Region.binds .any e = true → e.on ≠ i := fun e he hb heq => by
        have h2 := hall e he hb
        rw [heq] at h2
        exact unlisted hiun h2
      obtain ⟨p1, p2, p3⟩ := Oper.apart_spec (hfree j oj hoj hji hjun hnot)
      have hfree' : ∀ k ok, ops[k]? = some ok → k ≠ i → (listed.setIfInBounds j true).getD k true = false →
          (∀ e ∈ ok.after, Region.binds .any e = true → e.on ≠ i) → oi.apart ops ok = true := fun k ok hk hki hun hno => by
        refine hfree k ok hk hki ?_ hno
        by_cases hjk : j = k
        · subst hjk; exact hjun
        · rw [getD_set_ne true hjk] at hun; exact hun
      have hr' := ready_mono hr (Ne.symm hji)
      have hS' := hS.set hj
      have sel_i := fun cs b => hsel i oi cs b hi
      have sel_j := fun cs b => hsel j oj cs b hoj
      -- what the step of j gives behind i
      have after : ∀ v s2, wpW P ops R T vs kd un Q (fuel + 1) (listed.setIfInBounds i true) (a.put oi.dst v) s2 →
          YW P ops R T vs kd un j oj a s2 fun u s3 => wpW P ops R T vs kd un Q fuel ((listed.setIfInBounds j true).setIfInBounds i true) ((a.put oj.dst u).put oi.dst v) s3 := fun v s2 H => by
        have h1 := H.2 j (ready_mono hj hji)
        unfold stepW at h1
        simp only [hoj] at h1
        have h1 := (YW_put v sel_j p1).1 h1
        refine h1.mono fun u s3 h => ?_
        rwa [Array.setIfInBounds_comm _ _ (Ne.symm hji), Act.put_comm a v u p2] at h
      unfold stepW
      simp only [hoj]
      -- i behind j, at a value of j
      have behind : ∀ u s3, YW P ops R T vs kd un i oi a s3 (fun v s2 => wpW P ops R T vs kd un Q fuel ((listed.setIfInBounds j true).setIfInBounds i true) ((a.put oj.dst u).put oi.dst v) s2) →
          wpW P ops R T vs kd un Q (fuel + 1) (listed.setIfInBounds j true) (a.put oj.dst u) s3 := fun u s3 h =>
        ih _ _ _ hS' hfree' hr' ((YW_put u sel_i p3).2 h)
      rcases hy with ⟨hwi, hy⟩ | ⟨hwi, hy⟩
      · rcases hy with ⟨ki, E, hEs, hst, hrun, H⟩ | ⟨ki, v, hv, H⟩ | ⟨ki, E, hEs, hst, hΨ, hrun, H⟩
        · rcases after _ s H with ⟨hwj, ⟨kj, Ej, hEj, hstj, hrunj, h⟩ | ⟨kj, u, hu, h⟩ | ⟨kj, Ej, hEj, hstj, hΨj, hrunj, h⟩⟩ | ⟨hwj, h⟩
          · exact .inl ⟨hwj, .inl ⟨kj, Ej, hEj, hstj, hrunj, behind _ s (.inl ⟨hwi, .inl ⟨ki, E, hEs, hst, hrun, h⟩⟩)⟩⟩
          · exact .inl ⟨hwj, .inr (.inl ⟨kj, u, hu, behind u s (.inl ⟨hwi, .inl ⟨ki, E, hEs, hst, hrun, h⟩⟩)⟩)⟩
          · have hun : un i j = true := by
              rcases orderW_spec hE hoj hi kj (Ne.symm hji) with h | h | h
              · exact (not_bothT hS hiun hj h).elim
              · exact (not_bothT hS hjun hr h).elim
              · exact h.2.2
            refine .inl ⟨hwj, .inr (.inr ⟨kj, Ej, hEj, hstj, hΨj, hrunj, fun u s3 hT => behind u s3 (.inl ⟨hwi, .inl ⟨ki, E, (hst j hun kj s u s3 hT).1 hEs, hst, hrun, ?_⟩⟩)⟩)⟩
            have := h u s3 hT
            rwa [hvs i j hun ki kj s u s3 hT]
          · exact .inr ⟨hwj, behind undef s (.inl ⟨hwi, .inl ⟨ki, E, hEs, hst, hrun, h⟩⟩)⟩
        · rcases after v s H with ⟨hwj, ⟨kj, Ej, hEj, hstj, hrunj, h⟩ | ⟨kj, u, hu, h⟩ | ⟨kj, Ej, hEj, hstj, hΨj, hrunj, h⟩⟩ | ⟨hwj, h⟩
          · exact .inl ⟨hwj, .inl ⟨kj, Ej, hEj, hstj, hrunj, behind _ s (.inl ⟨hwi, .inr (.inl ⟨ki, v, hv, h⟩)⟩)⟩⟩
          · exact .inl ⟨hwj, .inr (.inl ⟨kj, u, hu, behind u s (.inl ⟨hwi, .inr (.inl ⟨ki, v, hv, h⟩)⟩)⟩)⟩
          · rcases orderW_spec hE hoj hi kj (Ne.symm hji) with h | h | h
            · exact (not_bothT hS hiun hj h).elim
            · exact (not_bothT hS hjun hr h).elim
            · exact absurd ki h.1
          · exact .inr ⟨hwj, behind undef s (.inl ⟨hwi, .inr (.inl ⟨ki, v, hv, h⟩)⟩)⟩
        · obtain ⟨v0, s0, h0⟩ := hΨ
          have hord := orderW_spec hE hi hoj ki hji
          have hord : kd j ≠ 1 ∧ un i j = true ∧ un j i = true := by
            rcases hord with h | h | h
            · exact (not_bothT hS hjun hr h).elim
            · exact (not_bothT hS hiun hj h).elim
            · exact h
          obtain ⟨nj, uij, uji⟩ := hord
          rcases after v0 s0 (H v0 s0 h0) with ⟨hwj, ⟨kj, Ej, hEj, hstj, hrunj, _⟩ | ⟨kj, _⟩ | ⟨kj, Ej, hEj, hstj, ⟨u0, t0, g0⟩, hrunj, _⟩⟩ | ⟨hwj, _⟩
          · refine .inl ⟨hwj, .inl ⟨kj, Ej, (hstj i uji ki s v0 s0 h0).2 hEj, hstj, hrunj, behind _ s (.inl ⟨hwi, .inr (.inr ⟨ki, E, hEs, hst, ⟨v0, s0, h0⟩, hrun, fun v s2 hv => ?_⟩)⟩)⟩⟩
            rcases after v s2 (H v s2 hv) with ⟨_, ⟨_, _, _, _, _, h⟩ | ⟨k1, _⟩ | ⟨k2, _⟩⟩ | ⟨hwj', _⟩
            · rwa [hvs j i uji kj ki s v s2 hv] at h
            · omega
            · omega
            · rw [hwj] at hwj'
              cases hwj'
          · exact absurd kj nj
          · have hsnd : ∀ u s1 v s2, T j s u s1 → T i s1 v s2 → wpW P ops R T vs kd un Q fuel ((listed.setIfInBounds j true).setIfInBounds i true) ((a.put oj.dst u).put oi.dst v) s2 := fun u s1 v s2 hj1 hi1 => by
              obtain ⟨s3, hi3, hj3⟩ := hdia i j uij ki kj s u s1 v s2 hj1 hi1
              rcases after v s3 (H v s3 hi3) with ⟨_, ⟨k1, _⟩ | ⟨k1, _⟩ | ⟨_, _, _, _, _, _, h⟩⟩ | ⟨hwj', _⟩
              · omega
              · omega
              · exact h u s2 hj3
              · rw [hwj] at hwj'
                cases hwj'
            obtain ⟨r0, hr1, hr2⟩ := hdia j i uji kj ki s v0 s0 u0 t0 h0 g0
            refine .inl ⟨hwj, .inr (.inr ⟨kj, Ej, (hstj i uji ki s v0 s0 h0).2 hEj, hstj, ⟨u0, r0, hr1⟩, hrunj, fun u s1 hT => behind u s1 ?_⟩)⟩
            exact .inl ⟨hwi, .inr (.inr ⟨ki, E, (hst j uij kj s u s1 hT).1 hEs, hst, hcon i j uij ki kj s u s1 v0 s0 hT h0, hrun, fun v s2 hv => hsnd u s1 v s2 hT hv⟩)⟩
          · refine .inr ⟨hwj, behind undef s (.inl ⟨hwi, .inr (.inr ⟨ki, E, hEs, hst, ⟨v0, s0, h0⟩, hrun, fun v s2 hv => ?_⟩)⟩)⟩
            rcases after v s2 (H v s2 hv) with ⟨hwj', _⟩ | ⟨_, h'⟩
            · rw [hwj] at hwj'
              cases hwj'
            · exact h'
      · refine (after undef s hy).mono fun u s3 h => behind u s3 (.inr ⟨hwi, h⟩)

theorem wpW_lex {Q : Act → σ → Prop} (hs : Region.noSelect ops = true) (hE : orderW ops kd un = true) (hdia : ∀ i j, un i j = true → 2 ≤ kd i → 2 ≤ kd j → ∀ s u s1 v s2, T j s u s1 → T i s1 v s2 → ∃ s3, T i s v s3 ∧ T j s3 u s2)
    (hcon : ∀ i j, un i j = true → 2 ≤ kd i → 2 ≤ kd j → ∀ s u s1 v s3, T j s u s1 → T i s v s3 → ∃ v' s2, T i s1 v' s2)
    (hvs : ∀ i j, un i j = true → kd i = 0 → 2 ≤ kd j → ∀ s v s1, T j s v s1 → vs i s1 = vs i s) : ∀ (l : List Oper) (k : Nat) (listed : Array Bool) (a : Act) (s : σ), Shut ops listed → (∀ j, l[j]? = ops[k + j]?) →
    Region.lexFrom .any ops l.length k listed = true → flowW P ops R T vs kd un Q k l a s → wpW P ops R T vs kd un Q l.length listed a s
  | [], _, _, _, _, _, _, hB, h => ⟨by simpa [Region.lexFrom] using hB, h⟩
  | o :: l, k, listed, a, s, hS, hl, hB, h => by
    have h0 : ops[k]? = some o := by simpa using (hl 0).symm
    simp only [List.length_cons, Region.lexFrom, Bool.and_eq_true] at hB
    obtain ⟨⟨hr, hf⟩, hB'⟩ := hB
    have hr' : k ∈ Region.ready .any ops listed := by simpa using hr
    refine wpW_first h0 (Region.noSelect_spec hs) hE hdia hcon hvs l.length listed a s hS (Region.free_spec h0 hf) hr' (YW.mono h fun v s2 hK => ?_)
    exact wpW_lex hs hE hdia hcon hvs l (k + 1) _ _ s2 (hS.set hr') (fun j => by have := hl (j + 1); simpa [Nat.add_assoc, Nat.add_comm 1 j] using this) hB' hK

theorem wpAnyIn_of_wpW {r : Option Nat} {n : Nat} {Q : Act → σ → Prop} {Q' : Exit → Act → World → Prop} (hd : noDeferB ops = true) (hQ : ∀ a s, Q a s → ∀ w', R s w' → Q' .normal a w') :
    ∀ (fuel : Nat) (listed : Array Bool) (a : Act) (s : σ), wpW P ops R T vs kd un Q fuel listed a s → ∀ w', R s w' → wpAnyIn (FW r) n P .any ops Q' fuel listed a w'
  | 0, _, a, s, h, w', hw => ⟨h.1, hQ a s h.2 w' hw⟩
  | fuel + 1, listed, a, s, h, w', hw => by
    refine ⟨fun h0 => hQ a s (h.1 h0) w' hw, fun i hi => ?_⟩
    have hs := h.2 i hi
    have ih := fun a2 s2 hk => wpAnyIn_of_wpW (r := r) (n := n) (Q' := Q') hd hQ fuel (listed.setIfInBounds i true) a2 s2 hk
    unfold stepW at hs
    unfold wpOpIn
    cases ho : ops[i]? with
    | none =>
      simp only [ho] at hs ⊢
      exact ih _ _ hs _ hw
    | some o =>
      simp only [ho] at hs ⊢
      have hsem : Oper.semAt (FW r).round a.eval o = execOp a.eval o := Oper.semAt_eq _ _ _ fun c => noDefer_spec hd i o c ho
      rcases hs with ⟨hwd, hs⟩ | ⟨hwd, hs⟩
      · rw [if_pos hwd]
        refine ⟨about_FW _ _ _ _, ?_⟩
        rw [hsem]
        rcases hs with ⟨hk, E, hEs, _, hv, hK⟩ | ⟨hk, v, hv, hK⟩ | ⟨hk, E, hEs, _, _, hrun, hK⟩
        · rw [hv s w' hEs hw]
          exact ih _ _ hK _ hw
        · rw [hv w' hw]
          exact ih _ _ hK _ hw
        · have h2 := hrun s w' hEs hw
          unfold leaves at h2
          split at h2
          · rename_i u w'' heq
            rw [heq]
            obtain ⟨s2, hv, hR⟩ := h2
            exact ih _ _ (hK _ _ hv) _ hR
          · rename_i w'' heq
            rw [heq]
            obtain ⟨s2, hv, hR⟩ := h2
            exact ih _ _ (hK _ _ hv) _ hR
          · rename_i f args w'' heq
            rw [heq]
            refine ⟨fun h => by simp [FW] at h, callsIn_FW (h2.mono ?_)⟩
            rintro e w3 ⟨u, rfl, s2, hv, hR⟩
            exact ih _ _ (hK _ _ hv) _ hR
          · exact h2.elim
      · rw [if_neg (by simp [hwd])]
        exact ⟨about_FW _ _ _ _, ih _ _ hs _ hw⟩

/-- **One walk in the order of the text serves every order**, effects that do not hang on each other included. -/
theorem wpIn_flowW {r : Option Nat} {n id : Nat} {Q : Exit → Act → World → Prop} {a : Act} {w : World} {l : List Oper} (kd : Nat → Nat) (un : Nat → Nat → Bool) (R : σ → World → Prop) (T : Nat → σ → Value → σ → Prop) (vs : Nat → σ → Value) (s : σ) (h0 : R s w.drew) (hm : P.follows .mixedOrders = true)
    (hdia : ∀ i j, un i j = true → 2 ≤ kd i → 2 ≤ kd j → ∀ s u s1 v s2, T j s u s1 → T i s1 v s2 → ∃ s3, T i s v s3 ∧ T j s3 u s2) (hcon : ∀ i j, un i j = true → 2 ≤ kd i → 2 ≤ kd j → ∀ s u s1 v s3, T j s u s1 → T i s v s3 → ∃ v' s2, T i s1 v' s2)
    (hvs : ∀ i j, un i j = true → kd i = 0 → 2 ≤ kd j → ∀ s v s1, T j s v s1 → vs i s1 = vs i s)
    (hB : (Region.lexB .any l.toArray && orderW l.toArray kd un && noDeferB l.toArray) = true) (h : flowW P l.toArray R T vs kd un (fun a' s2 => ∀ w', R s2 w' → Q .normal a' w') 0 l a s) : (Code.region id l.toArray true).wpIn (FW r) n P Q a w := by
  simp only [Bool.and_eq_true] at hB
  obtain ⟨⟨hB, hE⟩, hd⟩ := hB
  simp only [Region.lexB, Bool.and_eq_true] at hB
  refine wpIn_region_any hm ?_
  have H := wpW_lex (P := P) (R := R) hB.1 hE hdia hcon hvs l 0 (Array.replicate l.toArray.size false) a s (Shut.none _) (by simp) (by simpa using hB.2) h
  have := wpAnyIn_of_wpW (r := r) (n := n) (Q' := Q) hd (fun a' s2 hq w' hw => hq w' hw) _ _ _ _ H w.drew h0
  simpa using this
theorem wp_flowW {id : Nat} {Q : Exit → Act → World → Prop} {a : Act} {w : World} {l : List Oper} (kd : Nat → Nat) (un : Nat → Nat → Bool) (R : σ → World → Prop) (T : Nat → σ → Value → σ → Prop) (vs : Nat → σ → Value) (s : σ) (h0 : R s w.drew) (hm : P.follows .mixedOrders = true)
    (hdia : ∀ i j, un i j = true → 2 ≤ kd i → 2 ≤ kd j → ∀ s u s1 v s2, T j s u s1 → T i s1 v s2 → ∃ s3, T i s v s3 ∧ T j s3 u s2) (hcon : ∀ i j, un i j = true → 2 ≤ kd i → 2 ≤ kd j → ∀ s u s1 v s3, T j s u s1 → T i s v s3 → ∃ v' s2, T i s1 v' s2)
    (hvs : ∀ i j, un i j = true → kd i = 0 → 2 ≤ kd j → ∀ s v s1, T j s v s1 → vs i s1 = vs i s)
    (hB : (Region.lexB .any l.toArray && orderW l.toArray kd un && noDeferB l.toArray) = true) (h : flowW P l.toArray R T vs kd un (fun a' s2 => ∀ w', R s2 w' → Q .normal a' w') 0 l a s) : (Code.region id l.toArray true).wp P Q a w :=
  wpIn_wide.1 (show (Code.region id l.toArray true).wpIn Fence.wide 0 P Q a w from wpIn_flowW (r := none) kd un R T vs s h0 hm hdia hcon hvs hB h)

theorem flowW_nil {Q : Act → σ → Prop} {k : Nat} {a : Act} {s : σ} (h : Q a s) : flowW P ops R T vs kd un Q k [] a s := h
theorem flowW_late {Q : Act → σ → Prop} {k : Nat} {a : Act} {s : σ} {o : Oper} {rest : List Oper} (E : σ → Prop) (hk : kd k = 0) (hw : Region.wanted o (yielded ops a.tmps) = true) (hE : E s) (hst : stays T kd un k E)
    (h1 : ∀ s0 w', E s0 → R s0 w' → (execOp a.eval o).run P w' = .ok (.value (vs k s0)) w') (h : ∀ K : Act → Prop, (∀ a', flowW P ops R T vs kd un Q (k + 1) rest a' s → K a') → K (a.put o.dst (vs k s))) : flowW P ops R T vs kd un Q k (o :: rest) a s :=
  .inl ⟨hw, .inl ⟨hk, E, hE, hst, h1, h _ fun _ h => h⟩⟩
theorem flowW_readE {Q : Act → σ → Prop} {k : Nat} {a : Act} {s : σ} {o : Oper} {rest : List Oper} (hk : kd k = 1) (hw : Region.wanted o (yielded ops a.tmps) = true)
    (h : ∀ K : Act → Prop, (∀ a', flowW P ops R T vs kd un Q (k + 1) rest a' s → K a') → ∃ v, (∀ w', R s w' → (execOp a.eval o).run P w' = .ok (.value v) w') ∧ K (a.put o.dst v)) : flowW P ops R T vs kd un Q k (o :: rest) a s :=
  let ⟨v, h1, h2⟩ := h _ fun _ h => h
  .inl ⟨hw, .inr (.inl ⟨hk, v, h1, h2⟩)⟩
theorem flowW_step {Q : Act → σ → Prop} {k : Nat} {a : Act} {s : σ} {o : Oper} {rest : List Oper} (E : σ → Prop) (hk : 2 ≤ kd k) (hw : Region.wanted o (yielded ops a.tmps) = true) (hE : E s) (hst : stays T kd un k E) (hT : ∃ v s2, T k s v s2)
    (h1 : ∀ s0 w', E s0 → R s0 w' → leaves P (fun v w2 => ∃ s2, T k s0 v s2 ∧ R s2 w2) ((execOp a.eval o).run P w'))
    (h : ∀ K : Act → σ → Prop, (∀ a' s', flowW P ops R T vs kd un Q (k + 1) rest a' s' → K a' s') → ∀ v s2, T k s v s2 → K (a.put o.dst v) s2) : flowW P ops R T vs kd un Q k (o :: rest) a s :=
  .inl ⟨hw, .inr (.inr ⟨hk, E, hE, hst, hT, h1, h _ fun _ _ h => h⟩)⟩
theorem flowW_skip {Q : Act → σ → Prop} {k : Nat} {a : Act} {s : σ} {o : Oper} {rest : List Oper} (hw : Region.wanted o (yielded ops a.tmps) = false)
    (h : ∀ K : Act → Prop, (∀ a', flowW P ops R T vs kd un Q (k + 1) rest a' s → K a') → K (a.put o.dst undef)) : flowW P ops R T vs kd un Q k (o :: rest) a s :=
  .inr ⟨hw, h _ fun _ h => h⟩
end flow9
end Go.Proofs.YtijidnhaijdfaaaGreatDoor

/- A region whose order of evaluation is left open, with a call of yield among its operations: walked once in the order of the text. Conditions: none. -/
namespace Go.Proofs.YtijidnhaijdfaaaGreatDoor
open Go.RowKit
set_option linter.unusedVariables false

section flowY
variable {P : Program} {n : Nat} {ops : Array Oper} {σ : Type} {R : σ → World → Prop} {C : σ → Prop}

/-- What an operation leaves, a call of yield among them. -/
def leavesY (n : Nat) (P : Program) (B : Value → World → Prop) : Result Next → Prop
  | .ok (.value u) w => B u w
  | .ok .skip w => B undef w
  | .ok (.enter f args) w => Calls P f args w fun e w' => ∃ u, e = .returned u ∧ B u w'
  | .ok (.round l f tmps assign body) w => RoundIn (FW none) (n - 1) P l f tmps assign body w fun e w' => ∃ u, e = .returned u ∧ B u w'
  | _ => False

/-- Kind 0: the operation yields v as long as anything of kind 0 is to come. Kind 1: it yields v in this state. From kind 2 on: it yields one of many values and leaves a state that fits it. -/
def YY (P : Program) (n : Nat) (ops : Array Oper) (R : σ → World → Prop) (C : σ → Prop) (k : Nat) (o : Oper) (a : Act) (s : σ) (K : Value → σ → Prop) : Prop :=
  (Region.wanted o (yielded ops a.tmps) = true ∧
    ((k = 0 ∧ ∃ v, (∀ s0 w', C s0 → R s0 w' → (execOp a.eval o).run P w' = .ok (.value v) w') ∧ K v s) ∨
     (k = 1 ∧ ∃ v, (∀ w', R s w' → (execOp a.eval o).run P w' = .ok (.value v) w') ∧ K v s) ∨
     (2 ≤ k ∧ ∃ Ψ : Value → σ → Prop, (∃ v s2, Ψ v s2) ∧ (∀ w', R s w' → leavesY n P (fun v w2 => ∃ s2, Ψ v s2 ∧ R s2 w2) ((execOp a.eval o).run P w')) ∧ (k ≠ 4 → C s → ∀ v s2, Ψ v s2 → C s2) ∧ ∀ v s2, Ψ v s2 → K v s2))) ∨
  (Region.wanted o (yielded ops a.tmps) = false ∧ K undef s)

theorem YY.mono {k : Nat} {o : Oper} {a : Act} {s : σ} {K K' : Value → σ → Prop} (h : YY P n ops R C k o a s K) (hK : ∀ v s2, K v s2 → K' v s2) : YY P n ops R C k o a s K' := by
  rcases h with ⟨hw, ⟨h0, v, h1, h2⟩ | ⟨h0, v, h1, h2⟩ | ⟨h0, Ψ, h1, h2, h3, h4⟩⟩ | ⟨hw, h⟩
  · exact .inl ⟨hw, .inl ⟨h0, v, h1, hK _ _ h2⟩⟩
  · exact .inl ⟨hw, .inr (.inl ⟨h0, v, h1, hK _ _ h2⟩)⟩
  · exact .inl ⟨hw, .inr (.inr ⟨h0, Ψ, h1, h2, h3, fun v s2 h => hK _ _ (h4 v s2 h)⟩)⟩
  · exact .inr ⟨hw, hK _ _ h⟩

theorem YY.some {k : Nat} {o : Oper} {a : Act} {s : σ} {K : Value → σ → Prop} (h : YY P n ops R C k o a s K) : ∃ v s2, K v s2 := by
  rcases h with ⟨hw, ⟨h0, v, h1, h2⟩ | ⟨h0, v, h1, h2⟩ | ⟨h0, Ψ, ⟨v, s2, h1⟩, h2, h3, h4⟩⟩ | ⟨hw, h⟩
  · exact ⟨_, _, h2⟩
  · exact ⟨_, _, h2⟩
  · exact ⟨_, _, h4 _ _ h1⟩
  · exact ⟨_, _, h⟩

theorem YY_put {k : Nat} {oi : Oper} {a : Act} {s : σ} {K : Value → σ → Prop} {dst : Option Tmp} (u : Value) (hs : ∀ cs b, oi.op ≠ .select cs b) (h : ∀ d, dst = some d → d ∉ oi.looksAt ops) :
    YY P n ops R C k oi (a.put dst u) s K ↔ YY P n ops R C k oi a s K := by
  unfold YY
  rw [execOp_put oi hs a dst u h, wanted_put oi a dst u h]

def stepY (P : Program) (n : Nat) (ops : Array Oper) (R : σ → World → Prop) (C : σ → Prop) (kd : Nat → Nat) (i : Nat) (K : Act → σ → Prop) (a : Act) (s : σ) : Prop :=
  match ops[i]? with
  | none => K a s
  | some o => YY P n ops R C (kd i) o a s fun v s2 => K (a.put o.dst v) s2

def wpY (P : Program) (n : Nat) (ops : Array Oper) (R : σ → World → Prop) (C : σ → Prop) (kd : Nat → Nat) (Q : Act → σ → Prop) : Nat → Array Bool → Act → σ → Prop
  | 0, listed, a, s => Region.ready .any ops listed = [] ∧ Q a s
  | fuel + 1, listed, a, s =>
    (Region.ready .any ops listed = [] → Q a s) ∧
    ∀ i ∈ Region.ready .any ops listed, stepY P n ops R C kd i (wpY P n ops R C kd Q fuel (listed.setIfInBounds i true)) a s

def flowY (P : Program) (n : Nat) (ops : Array Oper) (R : σ → World → Prop) (C : σ → Prop) (kd : Nat → Nat) (Q : Act → σ → Prop) : Nat → List Oper → Act → σ → Prop
  | _, [], a, s => Q a s
  | k, o :: rest, a, s => YY P n ops R C (kd k) o a s fun v s2 => flowY P n ops R C kd Q (k + 1) rest (a.put o.dst v) s2

theorem wpY_first {kd : Nat → Nat} {Q : Act → σ → Prop} {i : Nat} {oi : Oper} (hi : ops[i]? = some oi) (hsel : ∀ (j : Nat) (o : Oper) cs b, ops[j]? = some o → o.op ≠ .select cs b)
    (hE : orderT ops kd = true) (hne : ∃ s0 w0, C s0 ∧ R s0 w0) : ∀ (fuel : Nat) (listed : Array Bool) (a : Act) (s : σ), Shut ops listed →
      (∀ j oj, ops[j]? = some oj → j ≠ i → listed.getD j true = false → (∀ e ∈ oj.after, Region.binds .any e = true → e.on ≠ i) → oi.apart ops oj = true) →
      i ∈ Region.ready .any ops listed → YY P n ops R C (kd i) oi a s (fun v s2 => wpY P n ops R C kd Q fuel (listed.setIfInBounds i true) (a.put oi.dst v) s2) → wpY P n ops R C kd Q (fuel + 1) listed a s := by
  intro fuel
  induction fuel with
  | zero =>
    intro listed a s _ _ hr hy
    refine ⟨fun h => (by rw [h] at hr; cases hr), fun j hj => ?_⟩
    by_cases hji : j = i
    · subst hji
      unfold stepY
      simp only [hi]
      exact hy
    · obtain ⟨v, s2, H⟩ := hy.some
      have := ready_mono hj hji
      rw [H.1] at this
      cases this
  | succ fuel ih =>
    intro listed a s hS hfree hr hy
    refine ⟨fun h => (by rw [h] at hr; cases hr), fun j hj => ?_⟩
    by_cases hji : j = i
    · subst hji
      unfold stepY
      simp only [hi]
      exact hy
    · have hiun := (mem_ready.1 hr).1
      obtain ⟨hjun, oj, hoj, hall⟩ := mem_ready.1 hj
      have hnot : ∀ e ∈ oj.after, Region.binds .any e = true → e.on ≠ i := fun e he hb heq => by
        have h2 := hall e he hb
        rw [heq] at h2
        exact unlisted hiun h2
      obtain ⟨p1, p2, p3⟩ := Oper.apart_spec (hfree j oj hoj hji hjun hnot)
      have hfree' : ∀ k ok, ops[k]? = some ok → k ≠ i → (listed.setIfInBounds j true).getD k true = false →
          (∀ e ∈ ok.after, Region.binds .any e = true → e.on ≠ i) → oi.apart ops ok = true := fun k ok hk hki hun hno => by
        refine hfree k ok hk hki ?_ hno
        by_cases hjk : j = k
        · subst hjk; exact hjun
        · rw [getD_set_ne true hjk] at hun; exact hun
      have hr' := ready_mono hr (Ne.symm hji)
      have hS' := hS.set hj
      have sel_i := fun cs b => hsel i oi cs b hi
      have sel_j := fun cs b => hsel j oj cs b hoj
      -- what the step of j gives behind i
      have after : ∀ v s2, wpY P n ops R C kd Q (fuel + 1) (listed.setIfInBounds i true) (a.put oi.dst v) s2 →
          YY P n ops R C (kd j) oj a s2 fun u s3 => wpY P n ops R C kd Q fuel ((listed.setIfInBounds j true).setIfInBounds i true) ((a.put oj.dst u).put oi.dst v) s3 := fun v s2 H => by
        have h1 := H.2 j (ready_mono hj hji)
        unfold stepY at h1
        simp only [hoj] at h1
        have h1 := (YY_put v sel_j p1).1 h1
        refine h1.mono fun u s3 h => ?_
        rwa [Array.setIfInBounds_comm _ _ (Ne.symm hji), Act.put_comm a v u p2] at h
      unfold stepY
      simp only [hoj]
      -- i behind j, at a value of j
      have behind : ∀ u s3, YY P n ops R C (kd i) oi a s3 (fun v s2 => wpY P n ops R C kd Q fuel ((listed.setIfInBounds j true).setIfInBounds i true) ((a.put oj.dst u).put oi.dst v) s2) →
          wpY P n ops R C kd Q (fuel + 1) (listed.setIfInBounds j true) (a.put oj.dst u) s3 := fun u s3 h =>
        ih _ _ _ hS' hfree' hr' ((YY_put u sel_i p3).2 h)
      rcases hy with ⟨hwi, hy⟩ | ⟨hwi, hy⟩
      · rcases hy with ⟨ki, v, hv, H⟩ | ⟨ki, v, hv, H⟩ | ⟨ki, Ψ, hΨ, hrun, hC, H⟩
        · refine (after v s H).mono fun u s3 h => behind u s3 (.inl ⟨hwi, .inl ⟨ki, v, hv, h⟩⟩)
        · rcases after v s H with ⟨hwj, hj1 | hj1 | hj1⟩ | ⟨hwj, hj1⟩
          · obtain ⟨kj, u, hu, h⟩ := hj1
            exact .inl ⟨hwj, .inl ⟨kj, u, hu, behind u s (.inl ⟨hwi, .inr (.inl ⟨ki, v, hv, h⟩)⟩)⟩⟩
          · obtain ⟨kj, u, hu, h⟩ := hj1
            exact .inl ⟨hwj, .inr (.inl ⟨kj, u, hu, behind u s (.inl ⟨hwi, .inr (.inl ⟨ki, v, hv, h⟩)⟩)⟩)⟩
          · obtain ⟨kj, _⟩ := hj1
            rcases orderT_spec hE hoj hi (by omega) (by omega) (by omega) (Ne.symm hji) with h | h
            · exact (not_bothT hS hiun hj h).elim
            · exact (not_bothT hS hjun hr h).elim
          · exact .inr ⟨hwj, behind undef s (.inl ⟨hwi, .inr (.inl ⟨ki, v, hv, hj1⟩)⟩)⟩
        · by_cases kj : kd j = 0
          · obtain ⟨v0, s0, h0⟩ := hΨ
            rcases after v0 s0 (H v0 s0 h0) with ⟨hwj, hj1⟩ | ⟨hwj, hj1⟩
            · rcases hj1 with ⟨_, u, hu, _⟩ | ⟨k1, _⟩ | ⟨k2, _⟩
              · refine .inl ⟨hwj, .inl ⟨kj, u, hu, behind u s (.inl ⟨hwi, .inr (.inr ⟨ki, Ψ, ⟨v0, s0, h0⟩, hrun, hC, fun v s2 hv => ?_⟩)⟩)⟩⟩
                rcases after v s2 (H v s2 hv) with ⟨_, ⟨_, u', hu', h'⟩ | ⟨k1, _⟩ | ⟨k2, _⟩⟩ | ⟨hwj', _⟩
                · obtain ⟨sw, ww, hcw, hrw⟩ := hne
                  have e1 := hu sw ww hcw hrw
                  rw [hu' sw ww hcw hrw] at e1
                  injection e1 with e1
                  injection e1 with e1
                  rw [← e1]
                  exact h'
                · omega
                · omega
                · rw [hwj] at hwj'
                  cases hwj'
              · omega
              · omega
            · refine .inr ⟨hwj, behind undef s (.inl ⟨hwi, .inr (.inr ⟨ki, Ψ, ⟨v0, s0, h0⟩, hrun, hC, fun v s2 hv => ?_⟩)⟩)⟩
              rcases after v s2 (H v s2 hv) with ⟨hwj', _⟩ | ⟨_, h'⟩
              · rw [hwj] at hwj'
                cases hwj'
              · exact h'
          · rcases orderT_spec hE hi hoj (by omega) (by omega) kj hji with h | h
            · exact (not_bothT hS hjun hr h).elim
            · exact (not_bothT hS hiun hj h).elim
      · refine (after undef s hy).mono fun u s3 h => behind u s3 (.inr ⟨hwi, h⟩)

theorem wpY_lex {kd : Nat → Nat} {Q : Act → σ → Prop} (hs : Region.noSelect ops = true) (hE : orderT ops kd = true) (hne : ∃ s0 w0, C s0 ∧ R s0 w0) : ∀ (l : List Oper) (k : Nat) (listed : Array Bool) (a : Act) (s : σ), Shut ops listed → (∀ j, l[j]? = ops[k + j]?) →
    Region.lexFrom .any ops l.length k listed = true → flowY P n ops R C kd Q k l a s → wpY P n ops R C kd Q l.length listed a s
  | [], _, _, _, _, _, _, hB, h => ⟨by simpa [Region.lexFrom] using hB, h⟩
  | o :: l, k, listed, a, s, hS, hl, hB, h => by
    have h0 : ops[k]? = some o := by simpa using (hl 0).symm
    simp only [List.length_cons, Region.lexFrom, Bool.and_eq_true] at hB
    obtain ⟨⟨hr, hf⟩, hB'⟩ := hB
    have hr' : k ∈ Region.ready .any ops listed := by simpa using hr
    refine wpY_first h0 (Region.noSelect_spec hs) hE hne l.length listed a s hS (Region.free_spec h0 hf) hr' (YY.mono h fun v s2 hK => ?_)
    exact wpY_lex hs hE hne l (k + 1) _ _ s2 (hS.set hr') (fun j => by have := hl (j + 1); simpa [Nat.add_assoc, Nat.add_comm 1 j] using this) hB' hK

theorem wpAnyIn_of_wpY {kd : Nat → Nat} {Q : Act → σ → Prop} {Q' : Exit → Act → World → Prop} (hd : noDeferB ops = true) (hcl : closeT ops kd = true) (hQ : ∀ a s, Q a s → ∀ w', R s w' → Q' .normal a w') :
    ∀ (fuel : Nat) (listed : Array Bool) (a : Act) (s : σ), Shut ops listed → wpY P n ops R C kd Q fuel listed a s → (pends ops kd listed → C s) → ∀ w', R s w' → wpAnyIn (FW none) n P .any ops Q' fuel listed a w'
  | 0, _, a, s, _, h, _, w', hw => ⟨h.1, hQ a s h.2 w' hw⟩
  | fuel + 1, listed, a, s, hS, h, hC, w', hw => by
    refine ⟨fun h0 => hQ a s (h.1 h0) w' hw, fun i hi => ?_⟩
    have hs := h.2 i hi
    have ih := fun a2 s2 hk => wpAnyIn_of_wpY (kd := kd) hd hcl hQ fuel (listed.setIfInBounds i true) a2 s2 (hS.set hi) hk
    unfold stepY at hs
    unfold wpOpIn
    cases ho : ops[i]? with
    | none =>
      simp only [ho] at hs ⊢
      exact ih _ _ hs (fun hp => hC (pends_less hp)) _ hw
    | some o =>
      simp only [ho] at hs ⊢
      have hsem : Oper.semAt (FW none).round a.eval o = execOp a.eval o := Oper.semAt_eq _ _ _ fun c => noDefer_spec hd i o c ho
      rcases hs with ⟨hwd, hs⟩ | ⟨hwd, hs⟩
      · rw [if_pos hwd]
        refine ⟨about_FW _ _ _ _, ?_⟩
        rw [hsem]
        rcases hs with ⟨hk, v, hv, hK⟩ | ⟨hk, v, hv, hK⟩ | ⟨hk, Ψ, _, hrun, hC2, hK⟩
        · rw [hv s w' (hC ⟨i, o, ho, hk, (mem_ready.1 hi).1⟩) hw]
          exact ih _ _ hK (fun hp => hC (pends_less hp)) _ hw
        · rw [hv w' hw]
          exact ih _ _ hK (fun hp => hC (pends_less hp)) _ hw
        · have hCn : ∀ v s2, Ψ v s2 → pends ops kd (listed.setIfInBounds i true) → C s2 := fun v s2 hv hp => by
            by_cases h4 : kd i = 4
            · obtain ⟨j, oj, hj1, hj2, hj3⟩ := pends_less hp
              exact (not_bothT hS hj3 hi (closeT_spec hcl ho hj1 h4 hj2)).elim
            · exact hC2 h4 (hC (pends_less hp)) v s2 hv
          have h2 := hrun w' hw
          unfold leavesY at h2
          split at h2
          · rename_i u w'' heq
            rw [heq]
            obtain ⟨s2, hv, hR⟩ := h2
            exact ih _ _ (hK _ _ hv) (hCn _ _ hv) _ hR
          · rename_i w'' heq
            rw [heq]
            obtain ⟨s2, hv, hR⟩ := h2
            exact ih _ _ (hK _ _ hv) (hCn _ _ hv) _ hR
          · rename_i f args w'' heq
            rw [heq]
            refine ⟨fun h => by simp [FW] at h, callsIn_FW (h2.mono ?_)⟩
            rintro e w3 ⟨u, rfl, s2, hv, hR⟩
            exact ih _ _ (hK _ _ hv) (hCn _ _ hv) _ hR
          · rename_i l f tmps assign body w'' heq
            rw [heq]
            refine ⟨fun h => by simp [FW] at h, h2.mono ?_⟩
            rintro e w3 ⟨u, rfl, s2, hv, hR⟩
            exact ih _ _ (hK _ _ hv) (hCn _ _ hv) _ hR
          · exact h2.elim
      · rw [if_neg (by simp [hwd])]
        exact ⟨about_FW _ _ _ _, ih _ _ hs (fun hp => hC (pends_less hp)) _ hw⟩

/-- **One walk in the order of the text serves every order**, values that nobody knows and last operations included. -/
theorem wpIn_flowY {id : Nat} {Q : Exit → Act → World → Prop} {a : Act} {w : World} {l : List Oper} (kd : Nat → Nat) (R : σ → World → Prop) (C : σ → Prop) (s : σ) (h0 : R s w.drew) (h00 : C s) (hm : P.follows .mixedOrders = true)
    (hB : (Region.lexB .any l.toArray && orderT l.toArray kd && noDeferB l.toArray && closeT l.toArray kd) = true) (h : flowY P n l.toArray R C kd (fun a' s2 => ∀ w', R s2 w' → Q .normal a' w') 0 l a s) : (Code.region id l.toArray true).wpIn (FW none) n P Q a w := by
  simp only [Bool.and_eq_true] at hB
  obtain ⟨⟨⟨hB, hE⟩, hd⟩, hcl⟩ := hB
  simp only [Region.lexB, Bool.and_eq_true] at hB
  refine wpIn_region_any hm ?_
  have H := wpY_lex (P := P) (R := R) (C := C) (kd := kd) hB.1 hE ⟨s, _, h00, h0⟩ l 0 (Array.replicate l.toArray.size false) a s (Shut.none _) (by simp) (by simpa using hB.2) h
  have := wpAnyIn_of_wpY (Q' := Q) hd hcl (fun a' s2 hq w' hw => hq w' hw) _ _ _ _ (Shut.none _) H (fun _ => h00) w.drew h0
  simpa using this

theorem flowY_nil {kd : Nat → Nat} {Q : Act → σ → Prop} {k : Nat} {a : Act} {s : σ} (h : Q a s) : flowY P n ops R C kd Q k [] a s := h

/-- Kind 0. -/
theorem flowY_late {kd : Nat → Nat} {Q : Act → σ → Prop} {k : Nat} {a : Act} {s : σ} {o : Oper} {rest : List Oper} (v : Value) (hk : kd k = 0) (hw : Region.wanted o (yielded ops a.tmps) = true)
    (h1 : ∀ s0 w', C s0 → R s0 w' → (execOp a.eval o).run P w' = .ok (.value v) w') (h : ∀ K : Act → Prop, (∀ a', flowY P n ops R C kd Q (k + 1) rest a' s → K a') → K (a.put o.dst v)) : flowY P n ops R C kd Q k (o :: rest) a s :=
  .inl ⟨hw, .inl ⟨hk, v, h1, h _ fun _ h => h⟩⟩
/-- Kind 1. -/
theorem flowY_read {kd : Nat → Nat} {Q : Act → σ → Prop} {k : Nat} {a : Act} {s : σ} {o : Oper} {rest : List Oper} (v : Value) (hk : kd k = 1) (hw : Region.wanted o (yielded ops a.tmps) = true)
    (h1 : ∀ w', R s w' → (execOp a.eval o).run P w' = .ok (.value v) w') (h : ∀ K : Act → Prop, (∀ a', flowY P n ops R C kd Q (k + 1) rest a' s → K a') → K (a.put o.dst v)) : flowY P n ops R C kd Q k (o :: rest) a s :=
  .inl ⟨hw, .inr (.inl ⟨hk, v, h1, h _ fun _ h => h⟩)⟩
/-- Kind 2, and 4 for the last. -/
theorem flowY_step {kd : Nat → Nat} {Q : Act → σ → Prop} {k : Nat} {a : Act} {s : σ} {o : Oper} {rest : List Oper} (Ψ : Value → σ → Prop) (hk : 2 ≤ kd k) (hw : Region.wanted o (yielded ops a.tmps) = true) (hΨ : ∃ v s2, Ψ v s2)
    (h1 : ∀ w', R s w' → leavesY n P (fun v w2 => ∃ s2, Ψ v s2 ∧ R s2 w2) ((execOp a.eval o).run P w')) (hC : kd k ≠ 4 → C s → ∀ v s2, Ψ v s2 → C s2)
    (h : ∀ K : Act → σ → Prop, (∀ a' s', flowY P n ops R C kd Q (k + 1) rest a' s' → K a' s') → ∀ v s2, Ψ v s2 → K (a.put o.dst v) s2) : flowY P n ops R C kd Q k (o :: rest) a s :=
  .inl ⟨hw, .inr (.inr ⟨hk, Ψ, hΨ, h1, hC, h _ fun _ _ h => h⟩)⟩
/-- Kind 1, the value found on the way. -/
theorem flowY_readE {kd : Nat → Nat} {Q : Act → σ → Prop} {k : Nat} {a : Act} {s : σ} {o : Oper} {rest : List Oper} (hk : kd k = 1) (hw : Region.wanted o (yielded ops a.tmps) = true)
    (h : ∀ K : Act → Prop, (∀ a', flowY P n ops R C kd Q (k + 1) rest a' s → K a') → ∃ v, (∀ w', R s w' → (execOp a.eval o).run P w' = .ok (.value v) w') ∧ K (a.put o.dst v)) : flowY P n ops R C kd Q k (o :: rest) a s :=
  let ⟨v, h1, h2⟩ := h _ fun _ h => h
  flowY_read v hk hw h1 fun K hK => hK _ h2
theorem flowY_lateE {kd : Nat → Nat} {Q : Act → σ → Prop} {k : Nat} {a : Act} {s : σ} {o : Oper} {rest : List Oper} (hk : kd k = 0) (hw : Region.wanted o (yielded ops a.tmps) = true)
    (h : ∀ K : Act → Prop, (∀ a', flowY P n ops R C kd Q (k + 1) rest a' s → K a') → ∃ v, (∀ s0 w', C s0 → R s0 w' → (execOp a.eval o).run P w' = .ok (.value v) w') ∧ K (a.put o.dst v)) : flowY P n ops R C kd Q k (o :: rest) a s :=
  let ⟨v, h1, h2⟩ := h _ fun _ h => h
  flowY_late v hk hw h1 fun K hK => hK _ h2
end flowY
end Go.Proofs.YtijidnhaijdfaaaGreatDoor
