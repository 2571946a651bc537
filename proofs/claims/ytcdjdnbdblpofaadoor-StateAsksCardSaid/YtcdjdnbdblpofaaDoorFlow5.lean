/-
  A region whose order of evaluation is left open, walked once in the order of the text, where what waits may wait through others. Conditions: none.
-/
import Derived.Test.YtcdjdnbdblpofaaDoorFlow
namespace Go.Proofs.YtcdjdnbdblpofaaDoor
open Go.RowKit

section flowT
variable {P : Program} {ops : Array Oper} {R : World → World → Prop}

/-- j waits for i, by n operations between them at most. -/
def waitsT (ops : Array Oper) : Nat → Nat → Nat → Bool
  | 0, j, i => waitsB ops j i
  | n + 1, j, i => waitsB ops j i || match ops[j]? with
    | some oj => oj.after.any fun e => Region.binds .any e && waitsT ops n e.on i
    | none => false

def orderT (ops : Array Oper) (kd : Nat → Nat) : Bool :=
  (List.range ops.size).all fun e => kd e == 0 || kd e == 1 || (List.range ops.size).all fun j => kd j == 0 || j == e || (decide (j < e) && waitsT ops ops.size e j) || (decide (e < j) && waitsT ops ops.size j e)

/-- What a listed operation waits for is listed. -/
def Shut (ops : Array Oper) (listed : Array Bool) : Prop := ∀ (j : Nat) oj, ops[j]? = some oj → listed.getD j false = true → ∀ e ∈ oj.after, Region.binds .any e = true → listed.getD e.on false = true

theorem Shut.set {listed : Array Bool} {j : Nat} (h : Shut ops listed) (hr : j ∈ Region.ready .any ops listed) : Shut ops (listed.setIfInBounds j true) := by
  intro k ok hk hl e he hb
  by_cases hjk : j = k
  · subst hjk
    obtain ⟨_, o2, ho2, hall⟩ := mem_ready.1 hr
    obtain rfl := Option.some.inj (hk.symm.trans ho2)
    exact getD_set_true (hall e he hb)
  · rw [getD_set_ne false hjk] at hl
    exact getD_set_true (h k ok hk hl e he hb)

theorem Shut.waits {listed : Array Bool} (h : Shut ops listed) {i : Nat} : ∀ n j, listed.getD j false = true → waitsT ops n j i = true → listed.getD i false = true
  | 0, j, hl, hw => by
    obtain ⟨oj, hj, e, he, hb, rfl⟩ := waitsB_spec hw
    exact h j oj hj hl e he hb
  | n + 1, j, hl, hw => by
    unfold waitsT at hw
    rw [Bool.or_eq_true] at hw
    rcases hw with hw | hw
    · obtain ⟨oj, hj, e, he, hb, rfl⟩ := waitsB_spec hw
      exact h j oj hj hl e he hb
    · split at hw
      · rename_i oj hj
        obtain ⟨e, he, hb⟩ := Array.any_eq_true'.1 hw
        simp only [Bool.and_eq_true] at hb
        exact h.waits n e.on (h j oj hj hl e he hb.1) hb.2
      · cases hw

theorem unlisted {listed : Array Bool} {i : Nat} (h1 : listed.getD i true = false) (h2 : listed.getD i false = true) : False := by
  rcases Nat.lt_or_ge i listed.size with h' | h'
  · simp [h'] at h1 h2
    rw [h1] at h2
    cases h2
  · simp [Array.getElem?_eq_none h'] at h2

theorem not_bothT {listed : Array Bool} (hS : Shut ops listed) {n i j : Nat} (hi : listed.getD i true = false) (hr : j ∈ Region.ready .any ops listed) (hw : waitsT ops n j i = true) : False := by
  obtain ⟨_, o2, ho2, hall⟩ := mem_ready.1 hr
  cases n with
  | zero => exact not_both hi hr hw
  | succ n =>
    unfold waitsT at hw
    rw [Bool.or_eq_true] at hw
    rcases hw with hw | hw
    · exact not_both hi hr hw
    · rw [ho2] at hw
      obtain ⟨e, he, hb⟩ := Array.any_eq_true'.1 hw
      simp only [Bool.and_eq_true] at hb
      exact unlisted hi (hS.waits n e.on (hall e he hb.1) hb.2)

theorem orderT_spec {kd : Nat → Nat} (h : orderT ops kd = true) {e j : Nat} {oe oj : Oper} (he : ops[e]? = some oe) (hj' : ops[j]? = some oj) (h0 : kd e ≠ 0) (h1 : kd e ≠ 1) (h2 : kd j ≠ 0) (hne : j ≠ e) :
    waitsT ops ops.size e j = true ∨ waitsT ops ops.size j e = true := by
  have hes : e < ops.size := (Array.getElem?_eq_some_iff.1 he).1
  have hjs : j < ops.size := (Array.getElem?_eq_some_iff.1 hj').1
  have a1 := List.all_eq_true.1 h e (List.mem_range.2 hes)
  simp only [Bool.or_eq_true, beq_iff_eq, h0, h1, false_or] at a1
  have a2 := List.all_eq_true.1 a1 j (List.mem_range.2 hjs)
  simp only [Bool.or_eq_true, beq_iff_eq, h2, hne, false_or, Bool.and_eq_true] at a2
  rcases a2 with a2 | a2
  · exact .inl a2.2
  · exact .inr a2.2

theorem wpF_firstT {kd : Nat → Nat} {Q : Act → World → Prop} {i : Nat} {oi : Oper} {v : Value} (hi : ops[i]? = some oi) (hsel : ∀ (j : Nat) (o : Oper) cs b, ops[j]? = some o → o.op ≠ .select cs b)
    (hE : orderT ops kd = true) : ∀ (fuel : Nat) (listed : Array Bool) (a : Act) (w w2 : World), Shut ops listed →
      (∀ j oj, ops[j]? = some oj → j ≠ i → listed.getD j true = false → (∀ e ∈ oj.after, Region.binds .any e = true → e.on ≠ i) → oi.apart ops oj = true) →
      i ∈ Region.ready .any ops listed → YF P ops R (kd i) oi a w v w2 →
      wpF P ops R kd Q fuel (listed.setIfInBounds i true) (a.put oi.dst v) w2 → wpF P ops R kd Q (fuel + 1) listed a w := by
  intro fuel
  induction fuel with
  | zero =>
    intro listed a w w2 _ _ hr hy H
    refine ⟨fun h => (by rw [h] at hr; cases hr), fun j hj => ?_⟩
    by_cases hji : j = i
    · subst hji
      unfold stepF
      simp only [hi]
      exact ⟨v, w2, hy, H⟩
    · have := ready_mono hj hji
      rw [H.1] at this
      cases this
  | succ fuel ih =>
    intro listed a w w2 hS hfree hr hy H
    refine ⟨fun h => (by rw [h] at hr; cases hr), fun j hj => ?_⟩
    by_cases hji : j = i
    · subst hji
      unfold stepF
      simp only [hi]
      exact ⟨v, w2, hy, H⟩
    · have hiun := (mem_ready.1 hr).1
      have h1 := H.2 j (ready_mono hj hji)
      obtain ⟨hjun, oj, hoj, hall⟩ := mem_ready.1 hj
      have hnot : ∀ e ∈ oj.after, Region.binds .any e = true → e.on ≠ i := fun e he hb heq => by
        have h2 := hall e he hb
        rw [heq] at h2
        exact unlisted hiun h2
      obtain ⟨p1, p2, p3⟩ := Oper.apart_spec (hfree j oj hoj hji hjun hnot)
      unfold stepF at h1 ⊢
      simp only [hoj] at h1 ⊢
      obtain ⟨u, w3, hyj, hK⟩ := h1
      rw [YF_put v (fun cs b => hsel j oj cs b hoj) p1] at hyj
      have hfree' : ∀ k ok, ops[k]? = some ok → k ≠ i → (listed.setIfInBounds j true).getD k true = false →
          (∀ e ∈ ok.after, Region.binds .any e = true → e.on ≠ i) → oi.apart ops ok = true := fun k ok hk hki hun hno => by
        refine hfree k ok hk hki ?_ hno
        by_cases hjk : j = k
        · subst hjk; exact hjun
        · rw [getD_set_ne true hjk] at hun; exact hun
      have hr' := ready_mono hr (Ne.symm hji)
      have hS' := hS.set hj
      rw [Array.setIfInBounds_comm _ _ (Ne.symm hji), Act.put_comm a v u p2] at hK
      by_cases ki : kd i = 0
      · rw [ki] at hy
        obtain ⟨rfl, _⟩ := YF_zero (w3 := w) hy
        refine ⟨u, w3, hyj, ih _ _ w3 w3 hS' hfree' hr' ?_ hK⟩
        rw [ki]
        exact (YF_put u (fun cs b => hsel i oi cs b hi) p3).2 (YF_zero hy).2
      · by_cases kj : kd j = 0
        · rw [kj] at hyj
          obtain ⟨rfl, _⟩ := YF_zero (w3 := w) hyj
          refine ⟨u, w, by rw [kj]; exact (YF_zero hyj).2, ih _ _ w w3 hS' hfree' hr' ?_ hK⟩
          exact (YF_put u (fun cs b => hsel i oi cs b hi) p3).2 hy
        · by_cases ki1 : kd i = 1
          · by_cases kj1 : kd j = 1
            · rw [ki1] at hy
              rw [kj1] at hyj
              obtain rfl := YF_one hy
              obtain rfl := YF_one hyj
              refine ⟨u, w3, by rw [kj1]; exact hyj, ih _ _ w3 w3 hS' hfree' hr' ?_ hK⟩
              rw [ki1]
              exact (YF_put u (fun cs b => hsel i oi cs b hi) p3).2 hy
            · rcases orderT_spec hE hoj hi kj kj1 ki (Ne.symm hji) with h | h
              · exact (not_bothT hS hiun hj h).elim
              · exact (not_bothT hS hjun hr h).elim
          · rcases orderT_spec hE hi hoj ki ki1 kj hji with h | h
            · exact (not_bothT hS hjun hr h).elim
            · exact (not_bothT hS hiun hj h).elim

theorem wpF_lexT {kd : Nat → Nat} {Q : Act → World → Prop} (hs : Region.noSelect ops = true) (hE : orderT ops kd = true) : ∀ (l : List Oper) (k : Nat) (listed : Array Bool) (a : Act) (w : World), Shut ops listed → (∀ j, l[j]? = ops[k + j]?) →
    Region.lexFrom .any ops l.length k listed = true → flow P ops R kd Q k l a w → wpF P ops R kd Q l.length listed a w
  | [], _, _, _, _, _, _, hB, h => ⟨by simpa [Region.lexFrom] using hB, h⟩
  | o :: l, k, listed, a, w, hS, hl, hB, h => by
    have h0 : ops[k]? = some o := by simpa using (hl 0).symm
    simp only [List.length_cons, Region.lexFrom, Bool.and_eq_true] at hB
    obtain ⟨⟨hr, hf⟩, hB'⟩ := hB
    obtain ⟨v, w2, hy, hK⟩ := h
    have hr' : k ∈ Region.ready .any ops listed := by simpa using hr
    exact wpF_firstT h0 (Region.noSelect_spec hs) hE l.length listed a w w2 hS (Region.free_spec h0 hf) hr' hy
      (wpF_lexT hs hE l (k + 1) _ _ w2 (hS.set hr') (fun j => by have := hl (j + 1); simpa [Nat.add_assoc, Nat.add_comm 1 j] using this) hB' hK)

theorem Shut.none (n : Nat) : Shut ops (Array.replicate n false) := by
  intro j oj _ hl
  rcases Nat.lt_or_ge j n with h' | h'
  · simp [h'] at hl
  · rw [Array.getD_eq_getD_getElem?, Array.getElem?_eq_none (by simp; omega)] at hl
    cases hl

/-- **One walk in the order of the text serves every order**, what waits through others waiting too. -/
theorem wpIn_flowT {r : Option Nat} {n id : Nat} {Q : Exit → Act → World → Prop} {a : Act} {w : World} {l : List Oper} (kd : Nat → Nat) (R : World → World → Prop) (w1 : World) (h0 : R w1 w.drew) (hm : P.follows .mixedOrders = true)
    (hB : (Region.lexB .any l.toArray && orderT l.toArray kd && noDeferB l.toArray) = true) (h : flow P l.toArray R kd (fun a' w2 => ∀ w', R w2 w' → Q .normal a' w') 0 l a w1) : (Code.region id l.toArray true).wpIn (FW r) n P Q a w := by
  simp only [Bool.and_eq_true] at hB
  obtain ⟨⟨hB, hE⟩, hd⟩ := hB
  simp only [Region.lexB, Bool.and_eq_true] at hB
  refine wpIn_region_any hm ?_
  have H := wpF_lexT (P := P) (R := R) (kd := kd) hB.1 hE l 0 (Array.replicate l.toArray.size false) a w1 (Shut.none _) (by simp) (by simpa using hB.2) h
  have := wpAnyIn_of_wpF (r := r) (n := n) (Q' := Q) hd (fun a' w2 hq w' hw => hq w' hw) _ _ _ _ H w.drew h0
  simpa using this

theorem wp_flowT {id : Nat} {Q : Exit → Act → World → Prop} {a : Act} {w : World} {l : List Oper} (kd : Nat → Nat) (R : World → World → Prop) (w1 : World) (h0 : R w1 w.drew) (hm : P.follows .mixedOrders = true)
    (hB : (Region.lexB .any l.toArray && orderT l.toArray kd && noDeferB l.toArray) = true) (h : flow P l.toArray R kd (fun a' w2 => ∀ w', R w2 w' → Q .normal a' w') 0 l a w1) : (Code.region id l.toArray true).wp P Q a w :=
  wpIn_wide.1 (show (Code.region id l.toArray true).wpIn Fence.wide 0 P Q a w from wpIn_flowT (r := none) kd R w1 h0 hm hB h)
end flowT
end Go.Proofs.YtcdjdnbdblpofaaDoor
