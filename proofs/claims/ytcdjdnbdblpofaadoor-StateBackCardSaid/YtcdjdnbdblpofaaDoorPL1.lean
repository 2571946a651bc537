/-
  Texts of one proof, one behind the other. Conditions: each text's own line says them.
-/
import Derived.Test.YtcdjdnbdblpofaaDoorFlow
import Derived.Test.YtcdjdnbdblpofaaDoorFlow3

/- A region whose order of evaluation is left open, walked once in the order of the text, where what waits may wait through others. Conditions: none. -/
namespace Go.Proofs.YtcdjdnbdblpofaaDoor
open Go.RowKit

section flowT
variable {P : Program} {ops : Array Oper} {R : World → World → Prop}

/-- j waits for i, by n operations between them at most. -/
def waitsT (ops : Array Oper) : Nat → Nat → Nat → Bool
  | 0, j, i => waitsB ops j i
  | n + 1, j, i => waitsB ops j i || match ops[j]? with
    | some oj => oj.after.any fun e => Region.binds .any e && waitsT ops n e.on i
    | none => false

def orderT (ops : Array Oper) (kd : Nat → Nat) : Bool :=
  (List.range ops.size).all fun e => kd e == 0 || kd e == 1 || (List.range ops.size).all fun j => kd j == 0 || j == e || (decide (j < e) && waitsT ops ops.size e j) || (decide (e < j) && waitsT ops ops.size j e)

/-- What a listed operation waits for is listed. -/
def Shut (ops : Array Oper) (listed : Array Bool) : Prop := ∀ (j : Nat) oj, ops[j]? = some oj → listed.getD j false = true → ∀ e ∈ oj.after, Region.binds .any e = true → listed.getD e.on false = true

theorem Shut.set {listed : Array Bool} {j : Nat} (h : Shut ops listed) (hr : j ∈ Region.ready .any ops listed) : Shut ops (listed.setIfInBounds j true) := by
  intro k ok hk hl e he hb
  by_cases hjk : j = k
  · subst hjk
    obtain ⟨_, o2, ho2, hall⟩ := mem_ready.1 hr
    obtain rfl := Option.some.inj (hk.symm.trans ho2)
    exact getD_set_true (hall e he hb)
  · rw [getD_set_ne false hjk] at hl
    exact getD_set_true (h k ok hk hl e he hb)

theorem Shut.waits {listed : Array Bool} (h : Shut ops listed) {i : Nat} : ∀ n j, listed.getD j false = true → waitsT ops n j i = true → listed.getD i false = true
  | 0, j, hl, hw => by
    obtain ⟨oj, hj, e, he, hb, rfl⟩ := waitsB_spec hw
    exact h j oj hj hl e he hb
  | n + 1, j, hl, hw => by
    unfold waitsT at hw
    rw [Bool.or_eq_true] at hw
    rcases hw with hw | hw
    · obtain ⟨oj, hj, e, he, hb, rfl⟩ := waitsB_spec hw
      exact h j oj hj hl e he hb
    · split at hw
      · rename_i oj hj
        obtain ⟨e, he, hb⟩ := Array.any_eq_true'.1 hw
        simp only [Bool.and_eq_true] at hb
        exact h.waits n e.on (h j oj hj hl e he hb.1) hb.2
      · cases hw

theorem unlisted {listed : Array Bool} {i : Nat} (h1 : listed.getD i true = false) (h2 : listed.getD i false = true) : False := by
  rcases Nat.lt_or_ge i listed.size with h' | h'
  · simp [h'] at h1 h2
    rw [h1] at h2
    cases h2
  · simp [Array.getElem?_eq_none h'] at h2

theorem not_bothT {listed : Array Bool} (hS : Shut ops listed) {n i j : Nat} (hi : listed.getD i true = false) (hr : j ∈ Region.ready .any ops listed) (hw : waitsT ops n j i = true) : False := by
  obtain ⟨_, o2, ho2, hall⟩ := mem_ready.1 hr
  cases n with
  | zero => exact not_both hi hr hw
  | succ n =>
    unfold waitsT at hw
    rw [Bool.or_eq_true] at hw
    rcases hw with hw | hw
    · exact not_both hi hr hw
    · rw [ho2] at hw
      obtain ⟨e, he, hb⟩ := Array.any_eq_true'.1 hw
      simp only [Bool.and_eq_true] at hb
      exact unlisted hi (hS.waits n e.on (hall e he hb.1) hb.2)

theorem orderT_spec {kd : Nat → Nat} (h : orderT ops kd = true) {e j : Nat} {oe oj : Oper} (he : ops[e]? = some oe) (hj' : ops[j]? = some oj) (h0 : kd e ≠ 0) (h1 : kd e ≠ 1) (h2 : kd j ≠ 0) (hne : j ≠ e) :
    waitsT ops ops.size e j = true ∨ waitsT ops ops.size j e = true := by
  have hes : e < ops.size := (Array.getElem?_eq_some_iff.1 he).1
  have hjs : j < ops.size := (Array.getElem?_eq_some_iff.1 hj').1
  have a1 := List.all_eq_true.1 h e (List.mem_range.2 hes)
  simp only [Bool.or_eq_true, beq_iff_eq, h0, h1, false_or] at a1
  have a2 := List.all_eq_true.1 a1 j (List.mem_range.2 hjs)
  simp only [Bool.or_eq_true, beq_iff_eq, h2, hne, false_or, Bool.and_eq_true] at a2
  rcases a2 with a2 | a2
  · exact .inl a2.2
  · exact .inr a2.2

theorem wpF_firstT {kd : Nat → Nat} {Q : Act → World → Prop} {i : Nat} {oi : Oper} {v : Value} (hi : ops[i]? = some oi) (hsel : ∀ (j : Nat) (o : Oper) cs b, ops[j]? = some o → o.op ≠ .select cs b)
    (hE : orderT ops kd = true) : ∀ (fuel : Nat) (listed : Array Bool) (a : Act) (w w2 : World), Shut ops listed →
      (∀ j oj, ops[j]? = some oj → j ≠ i → listed.getD j true = false → (∀ e ∈ oj.after, Region.binds .any e = true → e.on ≠ i) → oi.apart ops oj = true) →
      i ∈ Region.ready .any ops listed → YF P ops R (kd i) oi a w v w2 →
      wpF P ops R kd Q fuel (listed.setIfInBounds i true) (a.put oi.dst v) w2 → wpF P ops R kd Q (fuel + 1) listed a w := by
  intro fuel
  induction fuel with
  | zero =>
    intro listed a w w2 _ _ hr hy H
    refine ⟨fun h => (by rw [h] at hr; cases hr), fun j hj => ?_⟩
    by_cases hji : j = i
    · subst hji
      unfold stepF
      simp only [hi]
      exact ⟨v, w2, hy, H⟩
    · have := ready_mono hj hji
      rw [H.1] at this
      cases this
  | succ fuel ih =>
    intro listed a w w2 hS hfree hr hy H
    refine ⟨fun h => (by rw [h] at hr; cases hr), fun j hj => ?_⟩
    by_cases hji : j = i
    · subst hji
      unfold stepF
      simp only [hi]
      exact ⟨v, w2, hy, H⟩
    · have hiun := (mem_ready.1 hr).1
      have h1 := H.2 j (ready_mono hj hji)
      obtain ⟨hjun, oj, hoj, hall⟩ := mem_ready.1 hj
      have hnot : ∀ e ∈ oj.after, Region.binds .any e = true → e.on ≠ i := fun e he hb heq => by
        have h2 := hall e he hb
        rw [heq] at h2
        exact unlisted hiun h2
      obtain ⟨p1, p2, p3⟩ := Oper.apart_spec (hfree j oj hoj hji hjun hnot)
      unfold stepF at h1 ⊢
      simp only [hoj] at h1 ⊢
      obtain ⟨u, w3, hyj, hK⟩ := h1
      rw [YF_put v (fun cs b => hsel j oj cs b hoj) p1] at hyj
      have hfree' : ∀ k ok, ops[k]? = some ok → k ≠ i → (listed.setIfInBounds j true).getD k true = false →
          (∀ e ∈ ok.after, Region.binds .any e = true → e.on ≠ i) → oi.apart ops ok = true := fun k ok hk hki hun hno => by
        refine hfree k ok hk hki ?_ hno
        by_cases hjk : j = k
        · subst hjk; exact hjun
        · rw [getD_set_ne true hjk] at hun; exact hun
      have hr' := ready_mono hr (Ne.symm hji)
      have hS' := hS.set hj
      rw [Array.setIfInBounds_comm _ _ (Ne.symm hji), Act.put_comm a v u p2] at hK
      by_cases ki : kd i = 0
      · rw [ki] at hy
        obtain ⟨rfl, _⟩ := YF_zero (w3 := w) hy
        refine ⟨u, w3, hyj, ih _ _ w3 w3 hS' hfree' hr' ?_ hK⟩
        rw [ki]
        exact (YF_put u (fun cs b => hsel i oi cs b hi) p3).2 (YF_zero hy).2
      · by_cases kj : kd j = 0
        · rw [kj] at hyj
          obtain ⟨rfl, _⟩ := YF_zero (w3 := w) hyj
          refine ⟨u, w, by rw [kj]; exact (YF_zero hyj).2, ih _ _ w w3 hS' hfree' hr' ?_ hK⟩
          exact (YF_put u (fun cs b => hsel i oi cs b hi) p3).2 hy
        · by_cases ki1 : kd i = 1
          · by_cases kj1 : kd j = 1
            · rw [ki1] at hy
              rw [kj1] at hyj
              obtain rfl := YF_one hy
              obtain rfl := YF_one hyj
              refine ⟨u, w3, by rw [kj1]; exact hyj, ih _ _ w3 w3 hS' hfree' hr' ?_ hK⟩
              rw [ki1]
              exact (YF_put u (fun cs b => hsel i oi cs b hi) p3).2 hy
            · rcases orderT_spec hE hoj hi kj kj1 ki (Ne.symm hji) with h | h
              · exact (not_bothT hS hiun hj h).elim
              · exact (not_bothT hS hjun hr h).elim
          · rcases orderT_spec hE hi hoj ki ki1 kj hji with h | h
            · exact (not_bothT hS hjun hr h).elim
            · exact (not_bothT hS hiun hj h).elim

theorem wpF_lexT {kd : Nat → Nat} {Q : Act → World → Prop} (hs : Region.noSelect ops = true) (hE : orderT ops kd = true) : ∀ (l : List Oper) (k : Nat) (listed : Array Bool) (a : Act) (w : World), Shut ops listed → (∀ j, l[j]? = ops[k + j]?) →
    Region.lexFrom .any ops l.length k listed = true → flow P ops R kd Q k l a w → wpF P ops R kd Q l.length listed a w
  | [], _, _, _, _, _, _, hB, h => ⟨by simpa [Region.lexFrom] using hB, h⟩
  | o :: l, k, listed, a, w, hS, hl, hB, h => by
    have h0 : ops[k]? = some o := by simpa using (hl 0).symm
    simp only [List.length_cons, Region.lexFrom, Bool.and_eq_true] at hB
    obtain ⟨⟨hr, hf⟩, hB'⟩ := hB
    obtain ⟨v, w2, hy, hK⟩ := h
    have hr' : k ∈ Region.ready .any ops listed := by simpa using hr
    exact wpF_firstT h0 (Region.noSelect_spec hs) hE l.length listed a w w2 hS (Region.free_spec h0 hf) hr' hy
      (wpF_lexT hs hE l (k + 1) _ _ w2 (hS.set hr') (fun j => by have := hl (j + 1); simpa [Nat.add_assoc, Nat.add_comm 1 j] using this) hB' hK)

theorem Shut.none (n : Nat) : Shut ops (Array.replicate n false) := by
  intro j oj _ hl
  rcases Nat.lt_or_ge j n with h' | h'
  · simp [h'] at hl
  · rw [Array.getD_eq_getD_getElem?, Array.getElem?_eq_none (by simp; omega)] at hl
    cases hl

/-- **One walk in the order of the text serves every order**, what waits through others waiting too. -/
theorem wpIn_flowT {r : Option Nat} {n id : Nat} {Q : Exit → Act → World → Prop} {a : Act} {w : World} {l : List Oper} (kd : Nat → Nat) (R : World → World → Prop) (w1 : World) (h0 : R w1 w.drew) (hm : P.follows .mixedOrders = true)
    (hB : (Region.lexB .any l.toArray && orderT l.toArray kd && noDeferB l.toArray) = true) (h : flow P l.toArray R kd (fun a' w2 => ∀ w', R w2 w' → Q .normal a' w') 0 l a w1) : (Code.region id l.toArray true).wpIn (FW r) n P Q a w := by
  simp only [Bool.and_eq_true] at hB
  obtain ⟨⟨hB, hE⟩, hd⟩ := hB
  simp only [Region.lexB, Bool.and_eq_true] at hB
  refine wpIn_region_any hm ?_
  have H := wpF_lexT (P := P) (R := R) (kd := kd) hB.1 hE l 0 (Array.replicate l.toArray.size false) a w1 (Shut.none _) (by simp) (by simpa using hB.2) h
  have := wpAnyIn_of_wpF (r := r) (n := n) (Q' := Q) hd (fun a' w2 hq w' hw => hq w' hw) _ _ _ _ H w.drew h0
  simpa using this

theorem wp_flowT {id : Nat} {Q : Exit → Act → World → Prop} {a : Act} {w : World} {l : List Oper} (kd : Nat → Nat) (R : World → World → Prop) (w1 : World) (h0 : R w1 w.drew) (hm : P.follows .mixedOrders = true)
    (hB : (Region.lexB .any l.toArray && orderT l.toArray kd && noDeferB l.toArray) = true) (h : flow P l.toArray R kd (fun a' w2 => ∀ w', R w2 w' → Q .normal a' w') 0 l a w1) : (Code.region id l.toArray true).wp P Q a w :=
  wpIn_wide.1 (show (Code.region id l.toArray true).wpIn Fence.wide 0 P Q a w from wpIn_flowT (r := none) kd R w1 h0 hm hB h)
end flowT
end Go.Proofs.YtcdjdnbdblpofaaDoor

/- A region whose order of evaluation is left open and in which a last store lies behind loads that other operations let by, where what waits may wait through others: walked once in the order of the text. Conditions: none. -/
namespace Go.Proofs.YtcdjdnbdblpofaaDoor
open Go.RowKit

section flow6
variable {P : Program} {ops : Array Oper} {R : World → World → Prop} {C : World → Prop}

theorem wpS_firstT {kd : Nat → Nat} {Q : Act → World → Prop} {i : Nat} {oi : Oper} {v : Value} (hi : ops[i]? = some oi) (hsel : ∀ (j : Nat) (o : Oper) cs b, ops[j]? = some o → o.op ≠ .select cs b)
    (hE : orderT ops kd = true) : ∀ (fuel : Nat) (listed : Array Bool) (a : Act) (w w2 : World), Shut ops listed →
      (∀ j oj, ops[j]? = some oj → j ≠ i → listed.getD j true = false → (∀ e ∈ oj.after, Region.binds .any e = true → e.on ≠ i) → oi.apart ops oj = true) →
      i ∈ Region.ready .any ops listed → YS P ops R C (kd i) oi a w v w2 →
      wpS P ops R C kd Q fuel (listed.setIfInBounds i true) (a.put oi.dst v) w2 → wpS P ops R C kd Q (fuel + 1) listed a w := by
  intro fuel
  induction fuel with
  | zero =>
    intro listed a w w2 _ _ hr hy H
    refine ⟨fun h => (by rw [h] at hr; cases hr), fun j hj => ?_⟩
    by_cases hji : j = i
    · subst hji
      unfold stepS
      simp only [hi]
      exact ⟨v, w2, hy, H⟩
    · have := ready_mono hj hji
      rw [H.1] at this
      cases this
  | succ fuel ih =>
    intro listed a w w2 hS hfree hr hy H
    refine ⟨fun h => (by rw [h] at hr; cases hr), fun j hj => ?_⟩
    by_cases hji : j = i
    · subst hji
      unfold stepS
      simp only [hi]
      exact ⟨v, w2, hy, H⟩
    · have hiun := (mem_ready.1 hr).1
      have h1 := H.2 j (ready_mono hj hji)
      obtain ⟨hjun, oj, hoj, hall⟩ := mem_ready.1 hj
      have hnot : ∀ e ∈ oj.after, Region.binds .any e = true → e.on ≠ i := fun e he hb heq => by
        have h2 := hall e he hb
        rw [heq] at h2
        rcases Nat.lt_or_ge i listed.size with h' | h'
        · simp [h'] at hiun h2; rw [hiun] at h2; cases h2
        · simp [Array.getElem?_eq_none h'] at h2
      obtain ⟨p1, p2, p3⟩ := Oper.apart_spec (hfree j oj hoj hji hjun hnot)
      unfold stepS at h1 ⊢
      simp only [hoj] at h1 ⊢
      obtain ⟨u, w3, hyj, hK⟩ := h1
      rw [YS_put v (fun cs b => hsel j oj cs b hoj) p1] at hyj
      have hfree' : ∀ k ok, ops[k]? = some ok → k ≠ i → (listed.setIfInBounds j true).getD k true = false →
          (∀ e ∈ ok.after, Region.binds .any e = true → e.on ≠ i) → oi.apart ops ok = true := fun k ok hk hki hun hno => by
        refine hfree k ok hk hki ?_ hno
        by_cases hjk : j = k
        · subst hjk; exact hjun
        · rw [getD_set_ne true hjk] at hun; exact hun
      have hr' := ready_mono hr (Ne.symm hji)
      have hS' := hS.set hj
      rw [Array.setIfInBounds_comm _ _ (Ne.symm hji), Act.put_comm a v u p2] at hK
      by_cases ki : kd i = 0
      · rw [ki] at hy
        obtain ⟨rfl, _⟩ := YS_zero (w3 := w) hy
        refine ⟨u, w3, hyj, ih _ _ w3 w3 hS' hfree' hr' ?_ hK⟩
        rw [ki]
        exact (YS_put u (fun cs b => hsel i oi cs b hi) p3).2 (YS_zero hy).2
      · by_cases kj : kd j = 0
        · rw [kj] at hyj
          obtain ⟨rfl, _⟩ := YS_zero (w3 := w) hyj
          refine ⟨u, w, by rw [kj]; exact (YS_zero hyj).2, ih _ _ w w3 hS' hfree' hr' ?_ hK⟩
          exact (YS_put u (fun cs b => hsel i oi cs b hi) p3).2 hy
        · by_cases ki1 : kd i = 1
          · by_cases kj1 : kd j = 1
            · rw [ki1] at hy
              rw [kj1] at hyj
              obtain rfl := YS_one hy
              obtain rfl := YS_one hyj
              refine ⟨u, w3, by rw [kj1]; exact hyj, ih _ _ w3 w3 hS' hfree' hr' ?_ hK⟩
              rw [ki1]
              exact (YS_put u (fun cs b => hsel i oi cs b hi) p3).2 hy
            · rcases orderT_spec hE hoj hi kj kj1 ki (Ne.symm hji) with h | h
              · exact (not_bothT hS hiun hj h).elim
              · exact (not_bothT hS hjun hr h).elim
          · rcases orderT_spec hE hi hoj ki ki1 kj hji with h | h
            · exact (not_bothT hS hjun hr h).elim
            · exact (not_bothT hS hiun hj h).elim

theorem wpS_lexT {kd : Nat → Nat} {Q : Act → World → Prop} (hs : Region.noSelect ops = true) (hE : orderT ops kd = true) : ∀ (l : List Oper) (k : Nat) (listed : Array Bool) (a : Act) (w : World), Shut ops listed → (∀ j, l[j]? = ops[k + j]?) →
    Region.lexFrom .any ops l.length k listed = true → flowS P ops R C kd Q k l a w → wpS P ops R C kd Q l.length listed a w
  | [], _, _, _, _, _, _, hB, h => ⟨by simpa [Region.lexFrom] using hB, h⟩
  | o :: l, k, listed, a, w, hS, hl, hB, h => by
    have h0 : ops[k]? = some o := by simpa using (hl 0).symm
    simp only [List.length_cons, Region.lexFrom, Bool.and_eq_true] at hB
    obtain ⟨⟨hr, hf⟩, hB'⟩ := hB
    obtain ⟨v, w2, hy, hK⟩ := h
    have hr' : k ∈ Region.ready .any ops listed := by simpa using hr
    exact wpS_firstT h0 (Region.noSelect_spec hs) hE l.length listed a w w2 hS (Region.free_spec h0 hf) hr' hy
      (wpS_lexT hs hE l (k + 1) _ _ w2 (hS.set hr') (fun j => by have := hl (j + 1); simpa [Nat.add_assoc, Nat.add_comm 1 j] using this) hB' hK)

/-- What closes waits, through others too, for each operation of kind 0. -/
def closeT (ops : Array Oper) (kd : Nat → Nat) : Bool :=
  (List.range ops.size).all fun e => kd e != 4 || (List.range ops.size).all fun j => kd j != 0 || waitsT ops ops.size e j

theorem closeT_spec {kd : Nat → Nat} (h : closeT ops kd = true) {e j : Nat} {oe oj : Oper} (he : ops[e]? = some oe) (hj' : ops[j]? = some oj) (h4 : kd e = 4) (h0 : kd j = 0) : waitsT ops ops.size e j = true := by
  have hes : e < ops.size := (Array.getElem?_eq_some_iff.1 he).1
  have hjs : j < ops.size := (Array.getElem?_eq_some_iff.1 hj').1
  have a1 := List.all_eq_true.1 h e (List.mem_range.2 hes)
  simp only [Bool.or_eq_true, bne_iff_ne, ne_eq, h4, not_true_eq_false, false_or] at a1
  have a2 := List.all_eq_true.1 a1 j (List.mem_range.2 hjs)
  simpa [h0] using a2

theorem wpAnyIn_of_wpST {r : Option Nat} {n : Nat} {kd : Nat → Nat} {Q : Act → World → Prop} {Q' : Exit → Act → World → Prop} (hd : noDeferB ops = true) (hcl : closeT ops kd = true) (hQ : ∀ a w, Q a w → ∀ w', R w w' → Q' .normal a w') :
    ∀ (fuel : Nat) (listed : Array Bool) (a : Act) (w : World), Shut ops listed → wpS P ops R C kd Q fuel listed a w → (pends ops kd listed → C w) → ∀ w', R w w' → wpAnyIn (FW r) n P .any ops Q' fuel listed a w'
  | 0, _, a, w, _, h, _, w', hw => ⟨h.1, hQ a w h.2 w' hw⟩
  | fuel + 1, listed, a, w, hS, h, hC, w', hw => by
    refine ⟨fun h0 => hQ a w (h.1 h0) w' hw, fun i hi => ?_⟩
    have hs := h.2 i hi
    have ih := fun a2 w2 hk => wpAnyIn_of_wpST (r := r) (n := n) (kd := kd) hd hcl hQ fuel (listed.setIfInBounds i true) a2 w2 (hS.set hi) hk
    unfold stepS at hs
    unfold wpOpIn
    cases ho : ops[i]? with
    | none =>
      simp only [ho] at hs ⊢
      exact ih _ _ hs (fun hp => hC (pends_less hp)) _ hw
    | some o =>
      simp only [ho] at hs ⊢
      obtain ⟨v, w2, hy, hK⟩ := hs
      have hsem : Oper.semAt (FW r).round a.eval o = execOp a.eval o := Oper.semAt_eq _ _ _ fun c => noDefer_spec hd i o c ho
      rcases hy with ⟨hwd, h0, _, hk4, h1⟩ | ⟨hwd, hv, he⟩
      · rw [if_pos hwd]
        have hC2 : pends ops kd (listed.setIfInBounds i true) → C w2 := fun hp => by
          by_cases h4 : kd i = 4
          · obtain ⟨j, oj, hj1, hj2, hj3⟩ := pends_less hp
            exact (not_bothT hS hj3 hi (closeT_spec hcl ho hj1 h4 hj2)).elim
          · exact hk4 h4 (hC (pends_less hp))
        refine ⟨about_FW _ _ _ _, ?_⟩
        rw [hsem]
        by_cases hk : kd i = 0
        · obtain ⟨rfl, h2⟩ := h0 hk
          rw [h2 _ w' (hC ⟨i, o, ho, hk, (mem_ready.1 hi).1⟩) hw]
          exact ih _ _ hK hC2 _ hw
        · have h2 := h1 hk w' hw
          unfold leftBy at h2
          split at h2
          · rename_i u w'' heq
            rw [heq]
            obtain ⟨rfl, h3⟩ := h2
            exact ih _ _ hK hC2 _ h3
          · rename_i w'' heq
            rw [heq]
            obtain ⟨rfl, h3⟩ := h2
            exact ih _ _ hK hC2 _ h3
          · rename_i f args w'' heq
            rw [heq]
            refine ⟨fun h => by simp [FW] at h, callsIn_FW (h2.mono ?_)⟩
            rintro e w3 ⟨rfl, h3⟩
            exact ih _ _ hK hC2 _ h3
          · exact h2.elim
      · rw [if_neg (by simp [hwd])]
        subst hv
        subst he
        exact ⟨about_FW _ _ _ _, ih _ _ hK (fun hp => hC (pends_less hp)) _ hw⟩

/-- **One walk in the order of the text serves every order**, also where calls make memory and where the last operations store. -/
theorem wpIn_flowST {r : Option Nat} {n id : Nat} {Q : Exit → Act → World → Prop} {a : Act} {w : World} {l : List Oper} (kd : Nat → Nat) (R : World → World → Prop) (C : World → Prop) (w1 : World) (h0 : R w1 w.drew) (h00 : C w1) (hm : P.follows .mixedOrders = true)
    (hB : (Region.lexB .any l.toArray && orderT l.toArray kd && noDeferB l.toArray && closeT l.toArray kd) = true) (h : flowS P l.toArray R C kd (fun a' w2 => ∀ w', R w2 w' → Q .normal a' w') 0 l a w1) : (Code.region id l.toArray true).wpIn (FW r) n P Q a w := by
  simp only [Bool.and_eq_true] at hB
  obtain ⟨⟨⟨hB, hE⟩, hd⟩, hcl⟩ := hB
  simp only [Region.lexB, Bool.and_eq_true] at hB
  refine wpIn_region_any hm ?_
  have H := wpS_lexT (P := P) (R := R) (kd := kd) hB.1 hE l 0 (Array.replicate l.toArray.size false) a w1 (Shut.none _) (by simp) (by simpa using hB.2) h
  have := wpAnyIn_of_wpST (r := r) (n := n) (Q' := Q) hd hcl (fun a' w2 hq w' hw => hq w' hw) _ _ _ _ (Shut.none _) H (fun _ => h00) w.drew h0
  simpa using this

theorem wp_flowST {id : Nat} {Q : Exit → Act → World → Prop} {a : Act} {w : World} {l : List Oper} (kd : Nat → Nat) (R : World → World → Prop) (C : World → Prop) (w1 : World) (h0 : R w1 w.drew) (h00 : C w1) (hm : P.follows .mixedOrders = true)
    (hB : (Region.lexB .any l.toArray && orderT l.toArray kd && noDeferB l.toArray && closeT l.toArray kd) = true) (h : flowS P l.toArray R C kd (fun a' w2 => ∀ w', R w2 w' → Q .normal a' w') 0 l a w1) : (Code.region id l.toArray true).wp P Q a w :=
  wpIn_wide.1 (show (Code.region id l.toArray true).wpIn Fence.wide 0 P Q a w from wpIn_flowST (r := none) kd R C w1 h0 h00 hm hB h)

end flow6
end Go.Proofs.YtcdjdnbdblpofaaDoor

/- A region whose order of evaluation is left open, whose operations may yield one of many values, and in which last operations may turn what others have read: walked once in the order of the text. Conditions: none. -/
namespace Go.Proofs.YtcdjdnbdblpofaaDoor
open Go.RowKit

section flow7
variable {P : Program} {ops : Array Oper} {σ : Type} {R : σ → World → Prop} {C : σ → Prop}

/-- What an operation leaves. -/
def leaves (P : Program) (B : Value → World → Prop) : Result Next → Prop
  | .ok (.value u) w => B u w
  | .ok .skip w => B undef w
  | .ok (.enter f args) w => Calls P f args w fun e w' => ∃ u, e = .returned u ∧ B u w'
  | _ => False

/-- Kind 0: the operation yields v as long as anything of kind 0 is to come. Kind 1: it yields v in this state. From kind 2 on: it yields one of many values and leaves a state that fits it. -/
def YU (P : Program) (ops : Array Oper) (R : σ → World → Prop) (C : σ → Prop) (k : Nat) (o : Oper) (a : Act) (s : σ) (K : Value → σ → Prop) : Prop :=
  (Region.wanted o (yielded ops a.tmps) = true ∧
    ((k = 0 ∧ ∃ v, (∀ s0 w', C s0 → R s0 w' → (execOp a.eval o).run P w' = .ok (.value v) w') ∧ K v s) ∨
     (k = 1 ∧ ∃ v, (∀ w', R s w' → (execOp a.eval o).run P w' = .ok (.value v) w') ∧ K v s) ∨
     (2 ≤ k ∧ ∃ Ψ : Value → σ → Prop, (∃ v s2, Ψ v s2) ∧ (∀ w', R s w' → leaves P (fun v w2 => ∃ s2, Ψ v s2 ∧ R s2 w2) ((execOp a.eval o).run P w')) ∧ (k ≠ 4 → C s → ∀ v s2, Ψ v s2 → C s2) ∧ ∀ v s2, Ψ v s2 → K v s2))) ∨
  (Region.wanted o (yielded ops a.tmps) = false ∧ K undef s)

theorem YU.mono {k : Nat} {o : Oper} {a : Act} {s : σ} {K K' : Value → σ → Prop} (h : YU P ops R C k o a s K) (hK : ∀ v s2, K v s2 → K' v s2) : YU P ops R C k o a s K' := by
  rcases h with ⟨hw, ⟨h0, v, h1, h2⟩ | ⟨h0, v, h1, h2⟩ | ⟨h0, Ψ, h1, h2, h3, h4⟩⟩ | ⟨hw, h⟩
  · exact .inl ⟨hw, .inl ⟨h0, v, h1, hK _ _ h2⟩⟩
  · exact .inl ⟨hw, .inr (.inl ⟨h0, v, h1, hK _ _ h2⟩)⟩
  · exact .inl ⟨hw, .inr (.inr ⟨h0, Ψ, h1, h2, h3, fun v s2 h => hK _ _ (h4 v s2 h)⟩)⟩
  · exact .inr ⟨hw, hK _ _ h⟩

theorem YU.some {k : Nat} {o : Oper} {a : Act} {s : σ} {K : Value → σ → Prop} (h : YU P ops R C k o a s K) : ∃ v s2, K v s2 := by
  rcases h with ⟨hw, ⟨h0, v, h1, h2⟩ | ⟨h0, v, h1, h2⟩ | ⟨h0, Ψ, ⟨v, s2, h1⟩, h2, h3, h4⟩⟩ | ⟨hw, h⟩
  · exact ⟨_, _, h2⟩
  · exact ⟨_, _, h2⟩
  · exact ⟨_, _, h4 _ _ h1⟩
  · exact ⟨_, _, h⟩

theorem YU_put {k : Nat} {oi : Oper} {a : Act} {s : σ} {K : Value → σ → Prop} {dst : Option Tmp} (u : Value) (hs : ∀ cs b, oi.op ≠ .select cs b) (h : ∀ d, dst = some d → d ∉ oi.looksAt ops) :
    YU P ops R C k oi (a.put dst u) s K ↔ YU P ops R C k oi a s K := by
  unfold YU
  rw [execOp_put oi hs a dst u h, wanted_put oi a dst u h]

def stepU (P : Program) (ops : Array Oper) (R : σ → World → Prop) (C : σ → Prop) (kd : Nat → Nat) (i : Nat) (K : Act → σ → Prop) (a : Act) (s : σ) : Prop :=
  match ops[i]? with
  | none => K a s
  | some o => YU P ops R C (kd i) o a s fun v s2 => K (a.put o.dst v) s2

def wpU (P : Program) (ops : Array Oper) (R : σ → World → Prop) (C : σ → Prop) (kd : Nat → Nat) (Q : Act → σ → Prop) : Nat → Array Bool → Act → σ → Prop
  | 0, listed, a, s => Region.ready .any ops listed = [] ∧ Q a s
  | fuel + 1, listed, a, s =>
    (Region.ready .any ops listed = [] → Q a s) ∧
    ∀ i ∈ Region.ready .any ops listed, stepU P ops R C kd i (wpU P ops R C kd Q fuel (listed.setIfInBounds i true)) a s

def flowU (P : Program) (ops : Array Oper) (R : σ → World → Prop) (C : σ → Prop) (kd : Nat → Nat) (Q : Act → σ → Prop) : Nat → List Oper → Act → σ → Prop
  | _, [], a, s => Q a s
  | k, o :: rest, a, s => YU P ops R C (kd k) o a s fun v s2 => flowU P ops R C kd Q (k + 1) rest (a.put o.dst v) s2

theorem wpU_first {kd : Nat → Nat} {Q : Act → σ → Prop} {i : Nat} {oi : Oper} (hi : ops[i]? = some oi) (hsel : ∀ (j : Nat) (o : Oper) cs b, ops[j]? = some o → o.op ≠ .select cs b)
    (hE : orderT ops kd = true) (hne : ∃ s0 w0, C s0 ∧ R s0 w0) : ∀ (fuel : Nat) (listed : Array Bool) (a : Act) (s : σ), Shut ops listed →
      (∀ j oj, ops[j]? = some oj → j ≠ i → listed.getD j true = false → (∀ e ∈ oj.after, Region.binds .any e = true → e.on ≠ i) → oi.apart ops oj = true) →
      i ∈ Region.ready .any ops listed → YU P ops R C (kd i) oi a s (fun v s2 => wpU P ops R C kd Q fuel (listed.setIfInBounds i true) (a.put oi.dst v) s2) → wpU P ops R C kd Q (fuel + 1) listed a s := by
  intro fuel
  induction fuel with
  | zero =>
    intro listed a s _ _ hr hy
    refine ⟨fun h => (by rw [h] at hr; cases hr), fun j hj => ?_⟩
    by_cases hji : j = i
    · subst hji
      unfold stepU
      simp only [hi]
      exact hy
    · obtain ⟨v, s2, H⟩ := hy.some
      have := ready_mono hj hji
      rw [H.1] at this
      cases this
  | succ fuel ih =>
    intro listed a s hS hfree hr hy
    refine ⟨fun h => (by rw [h] at hr; cases hr), fun j hj => ?_⟩
    by_cases hji : j = i
    · subst hji
      unfold stepU
      simp only [hi]
      exact hy
    · have hiun := (mem_ready.1 hr).1
      obtain ⟨hjun, oj, hoj, hall⟩ := mem_ready.1 hj
      have hnot : ∀ e ∈ oj.after, Region.binds .any e = true → e.on ≠ i := fun e he hb heq => by
        have h2 := hall e he hb
        rw [heq] at h2
        exact unlisted hiun h2
      obtain ⟨p1, p2, p3⟩ := Oper.apart_spec (hfree j oj hoj hji hjun hnot)
      have hfree' : ∀ k ok, ops[k]? = some ok → k ≠ i → (listed.setIfInBounds j true).getD k true = false →
          (∀ e ∈ ok.after, Region.binds .any e = true → e.on ≠ i) → oi.apart ops ok = true := fun k ok hk hki hun hno => by
        refine hfree k ok hk hki ?_ hno
        by_cases hjk : j = k
        · subst hjk; exact hjun
        · rw [getD_set_ne true hjk] at hun; exact hun
      have hr' := ready_mono hr (Ne.symm hji)
      have hS' := hS.set hj
      have sel_i := fun cs b => hsel i oi cs b hi
      have sel_j := fun cs b => hsel j oj cs b hoj
      -- what the step of j gives behind i
      have after : ∀ v s2, wpU P ops R C kd Q (fuel + 1) (listed.setIfInBounds i true) (a.put oi.dst v) s2 →
          YU P ops R C (kd j) oj a s2 fun u s3 => wpU P ops R C kd Q fuel ((listed.setIfInBounds j true).setIfInBounds i true) ((a.put oj.dst u).put oi.dst v) s3 := fun v s2 H => by
        have h1 := H.2 j (ready_mono hj hji)
        unfold stepU at h1
        simp only [hoj] at h1
        have h1 := (YU_put v sel_j p1).1 h1
        refine h1.mono fun u s3 h => ?_
        rwa [Array.setIfInBounds_comm _ _ (Ne.symm hji), Act.put_comm a v u p2] at h
      unfold stepU
      simp only [hoj]
      -- i behind j, at a value of j
      have behind : ∀ u s3, YU P ops R C (kd i) oi a s3 (fun v s2 => wpU P ops R C kd Q fuel ((listed.setIfInBounds j true).setIfInBounds i true) ((a.put oj.dst u).put oi.dst v) s2) →
          wpU P ops R C kd Q (fuel + 1) (listed.setIfInBounds j true) (a.put oj.dst u) s3 := fun u s3 h =>
        ih _ _ _ hS' hfree' hr' ((YU_put u sel_i p3).2 h)
      rcases hy with ⟨hwi, hy⟩ | ⟨hwi, hy⟩
      · rcases hy with ⟨ki, v, hv, H⟩ | ⟨ki, v, hv, H⟩ | ⟨ki, Ψ, hΨ, hrun, hC, H⟩
        · refine (after v s H).mono fun u s3 h => behind u s3 (.inl ⟨hwi, .inl ⟨ki, v, hv, h⟩⟩)
        · rcases after v s H with ⟨hwj, hj1 | hj1 | hj1⟩ | ⟨hwj, hj1⟩
          · obtain ⟨kj, u, hu, h⟩ := hj1
            exact .inl ⟨hwj, .inl ⟨kj, u, hu, behind u s (.inl ⟨hwi, .inr (.inl ⟨ki, v, hv, h⟩)⟩)⟩⟩
          · obtain ⟨kj, u, hu, h⟩ := hj1
            exact .inl ⟨hwj, .inr (.inl ⟨kj, u, hu, behind u s (.inl ⟨hwi, .inr (.inl ⟨ki, v, hv, h⟩)⟩)⟩)⟩
          · obtain ⟨kj, _⟩ := hj1
            rcases orderT_spec hE hoj hi (by omega) (by omega) (by omega) (Ne.symm hji) with h | h
            · exact (not_bothT hS hiun hj h).elim
            · exact (not_bothT hS hjun hr h).elim
          · exact .inr ⟨hwj, behind undef s (.inl ⟨hwi, .inr (.inl ⟨ki, v, hv, hj1⟩)⟩)⟩
        · by_cases kj : kd j = 0
          · obtain ⟨v0, s0, h0⟩ := hΨ
            rcases after v0 s0 (H v0 s0 h0) with ⟨hwj, hj1⟩ | ⟨hwj, hj1⟩
            · rcases hj1 with ⟨_, u, hu, _⟩ | ⟨k1, _⟩ | ⟨k2, _⟩
              · refine .inl ⟨hwj, .inl ⟨kj, u, hu, behind u s (.inl ⟨hwi, .inr (.inr ⟨ki, Ψ, ⟨v0, s0, h0⟩, hrun, hC, fun v s2 hv => ?_⟩)⟩)⟩⟩
                rcases after v s2 (H v s2 hv) with ⟨_, ⟨_, u', hu', h'⟩ | ⟨k1, _⟩ | ⟨k2, _⟩⟩ | ⟨hwj', _⟩
                · obtain ⟨sw, ww, hcw, hrw⟩ := hne
                  have e1 := hu sw ww hcw hrw
                  rw [hu' sw ww hcw hrw] at e1
                  injection e1 with e1
                  injection e1 with e1
                  rw [← e1]
                  exact h'
                · omega
                · omega
                · rw [hwj] at hwj'
                  cases hwj'
              · omega
              · omega
            · refine .inr ⟨hwj, behind undef s (.inl ⟨hwi, .inr (.inr ⟨ki, Ψ, ⟨v0, s0, h0⟩, hrun, hC, fun v s2 hv => ?_⟩)⟩)⟩
              rcases after v s2 (H v s2 hv) with ⟨hwj', _⟩ | ⟨_, h'⟩
              · rw [hwj] at hwj'
                cases hwj'
              · exact h'
          · rcases orderT_spec hE hi hoj (by omega) (by omega) kj hji with h | h
            · exact (not_bothT hS hjun hr h).elim
            · exact (not_bothT hS hiun hj h).elim
      · refine (after undef s hy).mono fun u s3 h => behind u s3 (.inr ⟨hwi, h⟩)

theorem wpU_lex {kd : Nat → Nat} {Q : Act → σ → Prop} (hs : Region.noSelect ops = true) (hE : orderT ops kd = true) (hne : ∃ s0 w0, C s0 ∧ R s0 w0) : ∀ (l : List Oper) (k : Nat) (listed : Array Bool) (a : Act) (s : σ), Shut ops listed → (∀ j, l[j]? = ops[k + j]?) →
    Region.lexFrom .any ops l.length k listed = true → flowU P ops R C kd Q k l a s → wpU P ops R C kd Q l.length listed a s
  | [], _, _, _, _, _, _, hB, h => ⟨by simpa [Region.lexFrom] using hB, h⟩
  | o :: l, k, listed, a, s, hS, hl, hB, h => by
    have h0 : ops[k]? = some o := by simpa using (hl 0).symm
    simp only [List.length_cons, Region.lexFrom, Bool.and_eq_true] at hB
    obtain ⟨⟨hr, hf⟩, hB'⟩ := hB
    have hr' : k ∈ Region.ready .any ops listed := by simpa using hr
    refine wpU_first h0 (Region.noSelect_spec hs) hE hne l.length listed a s hS (Region.free_spec h0 hf) hr' (YU.mono h fun v s2 hK => ?_)
    exact wpU_lex hs hE hne l (k + 1) _ _ s2 (hS.set hr') (fun j => by have := hl (j + 1); simpa [Nat.add_assoc, Nat.add_comm 1 j] using this) hB' hK

theorem wpAnyIn_of_wpU {r : Option Nat} {n : Nat} {kd : Nat → Nat} {Q : Act → σ → Prop} {Q' : Exit → Act → World → Prop} (hd : noDeferB ops = true) (hcl : closeT ops kd = true) (hQ : ∀ a s, Q a s → ∀ w', R s w' → Q' .normal a w') :
    ∀ (fuel : Nat) (listed : Array Bool) (a : Act) (s : σ), Shut ops listed → wpU P ops R C kd Q fuel listed a s → (pends ops kd listed → C s) → ∀ w', R s w' → wpAnyIn (FW r) n P .any ops Q' fuel listed a w'
  | 0, _, a, s, _, h, _, w', hw => ⟨h.1, hQ a s h.2 w' hw⟩
  | fuel + 1, listed, a, s, hS, h, hC, w', hw => by
    refine ⟨fun h0 => hQ a s (h.1 h0) w' hw, fun i hi => ?_⟩
    have hs := h.2 i hi
    have ih := fun a2 s2 hk => wpAnyIn_of_wpU (r := r) (n := n) (kd := kd) hd hcl hQ fuel (listed.setIfInBounds i true) a2 s2 (hS.set hi) hk
    unfold stepU at hs
    unfold wpOpIn
    cases ho : ops[i]? with
    | none =>
      simp only [ho] at hs ⊢
      exact ih _ _ hs (fun hp => hC (pends_less hp)) _ hw
    | some o =>
      simp only [ho] at hs ⊢
      have hsem : Oper.semAt (FW r).round a.eval o = execOp a.eval o := Oper.semAt_eq _ _ _ fun c => noDefer_spec hd i o c ho
      rcases hs with ⟨hwd, hs⟩ | ⟨hwd, hs⟩
      · rw [if_pos hwd]
        refine ⟨about_FW _ _ _ _, ?_⟩
        rw [hsem]
        rcases hs with ⟨hk, v, hv, hK⟩ | ⟨hk, v, hv, hK⟩ | ⟨hk, Ψ, _, hrun, hC2, hK⟩
        · rw [hv s w' (hC ⟨i, o, ho, hk, (mem_ready.1 hi).1⟩) hw]
          exact ih _ _ hK (fun hp => hC (pends_less hp)) _ hw
        · rw [hv w' hw]
          exact ih _ _ hK (fun hp => hC (pends_less hp)) _ hw
        · have hCn : ∀ v s2, Ψ v s2 → pends ops kd (listed.setIfInBounds i true) → C s2 := fun v s2 hv hp => by
            by_cases h4 : kd i = 4
            · obtain ⟨j, oj, hj1, hj2, hj3⟩ := pends_less hp
              exact (not_bothT hS hj3 hi (closeT_spec hcl ho hj1 h4 hj2)).elim
            · exact hC2 h4 (hC (pends_less hp)) v s2 hv
          have h2 := hrun w' hw
          unfold leaves at h2
          split at h2
          · rename_i u w'' heq
            rw [heq]
            obtain ⟨s2, hv, hR⟩ := h2
            exact ih _ _ (hK _ _ hv) (hCn _ _ hv) _ hR
          · rename_i w'' heq
            rw [heq]
            obtain ⟨s2, hv, hR⟩ := h2
            exact ih _ _ (hK _ _ hv) (hCn _ _ hv) _ hR
          · rename_i f args w'' heq
            rw [heq]
            refine ⟨fun h => by simp [FW] at h, callsIn_FW (h2.mono ?_)⟩
            rintro e w3 ⟨u, rfl, s2, hv, hR⟩
            exact ih _ _ (hK _ _ hv) (hCn _ _ hv) _ hR
          · exact h2.elim
      · rw [if_neg (by simp [hwd])]
        exact ⟨about_FW _ _ _ _, ih _ _ hs (fun hp => hC (pends_less hp)) _ hw⟩

/-- **One walk in the order of the text serves every order**, values that nobody knows and last operations included. -/
theorem wpIn_flowU {r : Option Nat} {n id : Nat} {Q : Exit → Act → World → Prop} {a : Act} {w : World} {l : List Oper} (kd : Nat → Nat) (R : σ → World → Prop) (C : σ → Prop) (s : σ) (h0 : R s w.drew) (h00 : C s) (hm : P.follows .mixedOrders = true)
    (hB : (Region.lexB .any l.toArray && orderT l.toArray kd && noDeferB l.toArray && closeT l.toArray kd) = true) (h : flowU P l.toArray R C kd (fun a' s2 => ∀ w', R s2 w' → Q .normal a' w') 0 l a s) : (Code.region id l.toArray true).wpIn (FW r) n P Q a w := by
  simp only [Bool.and_eq_true] at hB
  obtain ⟨⟨⟨hB, hE⟩, hd⟩, hcl⟩ := hB
  simp only [Region.lexB, Bool.and_eq_true] at hB
  refine wpIn_region_any hm ?_
  have H := wpU_lex (P := P) (R := R) (C := C) (kd := kd) hB.1 hE ⟨s, _, h00, h0⟩ l 0 (Array.replicate l.toArray.size false) a s (Shut.none _) (by simp) (by simpa using hB.2) h
  have := wpAnyIn_of_wpU (r := r) (n := n) (Q' := Q) hd hcl (fun a' s2 hq w' hw => hq w' hw) _ _ _ _ (Shut.none _) H (fun _ => h00) w.drew h0
  simpa using this

theorem wp_flowU {id : Nat} {Q : Exit → Act → World → Prop} {a : Act} {w : World} {l : List Oper} (kd : Nat → Nat) (R : σ → World → Prop) (C : σ → Prop) (s : σ) (h0 : R s w.drew) (h00 : C s) (hm : P.follows .mixedOrders = true)
    (hB : (Region.lexB .any l.toArray && orderT l.toArray kd && noDeferB l.toArray && closeT l.toArray kd) = true) (h : flowU P l.toArray R C kd (fun a' s2 => ∀ w', R s2 w' → Q .normal a' w') 0 l a s) : (Code.region id l.toArray true).wp P Q a w :=
  wpIn_wide.1 (show (Code.region id l.toArray true).wpIn Fence.wide 0 P Q a w from wpIn_flowU (r := none) kd R C s h0 h00 hm hB h)

theorem flowU_nil {kd : Nat → Nat} {Q : Act → σ → Prop} {k : Nat} {a : Act} {s : σ} (h : Q a s) : flowU P ops R C kd Q k [] a s := h

/-- Kind 0. -/
theorem flowU_late {kd : Nat → Nat} {Q : Act → σ → Prop} {k : Nat} {a : Act} {s : σ} {o : Oper} {rest : List Oper} (v : Value) (hk : kd k = 0) (hw : Region.wanted o (yielded ops a.tmps) = true)
    (h1 : ∀ s0 w', C s0 → R s0 w' → (execOp a.eval o).run P w' = .ok (.value v) w') (h : ∀ K : Act → Prop, (∀ a', flowU P ops R C kd Q (k + 1) rest a' s → K a') → K (a.put o.dst v)) : flowU P ops R C kd Q k (o :: rest) a s :=
  .inl ⟨hw, .inl ⟨hk, v, h1, h _ fun _ h => h⟩⟩
/-- Kind 1. -/
theorem flowU_read {kd : Nat → Nat} {Q : Act → σ → Prop} {k : Nat} {a : Act} {s : σ} {o : Oper} {rest : List Oper} (v : Value) (hk : kd k = 1) (hw : Region.wanted o (yielded ops a.tmps) = true)
    (h1 : ∀ w', R s w' → (execOp a.eval o).run P w' = .ok (.value v) w') (h : ∀ K : Act → Prop, (∀ a', flowU P ops R C kd Q (k + 1) rest a' s → K a') → K (a.put o.dst v)) : flowU P ops R C kd Q k (o :: rest) a s :=
  .inl ⟨hw, .inr (.inl ⟨hk, v, h1, h _ fun _ h => h⟩)⟩
/-- Kind 2, and 4 for the last. -/
theorem flowU_step {kd : Nat → Nat} {Q : Act → σ → Prop} {k : Nat} {a : Act} {s : σ} {o : Oper} {rest : List Oper} (Ψ : Value → σ → Prop) (hk : 2 ≤ kd k) (hw : Region.wanted o (yielded ops a.tmps) = true) (hΨ : ∃ v s2, Ψ v s2)
    (h1 : ∀ w', R s w' → leaves P (fun v w2 => ∃ s2, Ψ v s2 ∧ R s2 w2) ((execOp a.eval o).run P w')) (hC : kd k ≠ 4 → C s → ∀ v s2, Ψ v s2 → C s2)
    (h : ∀ K : Act → σ → Prop, (∀ a' s', flowU P ops R C kd Q (k + 1) rest a' s' → K a' s') → ∀ v s2, Ψ v s2 → K (a.put o.dst v) s2) : flowU P ops R C kd Q k (o :: rest) a s :=
  .inl ⟨hw, .inr (.inr ⟨hk, Ψ, hΨ, h1, hC, h _ fun _ _ h => h⟩)⟩
end flow7
end Go.Proofs.YtcdjdnbdblpofaaDoor
