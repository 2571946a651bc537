/-
  A region whose order of evaluation is left open and in which a last store lies behind loads that other operations let by, where what waits may wait through others: walked once in the order of the text. Conditions: none.
-/
import Derived.Test.YtcdjdnbdblpofaaDoorFlow3
import Derived.Test.YtcdjdnbdblpofaaDoorFlow5
namespace Go.Proofs.YtcdjdnbdblpofaaDoor
open Go.RowKit

section flow6
variable {P : Program} {ops : Array Oper} {R : World → World → Prop} {C : World → Prop}

theorem wpS_firstT {kd : Nat → Nat} {Q : Act → World → Prop} {i : Nat} {oi : Oper} {v : Value} (hi : ops[i]? = some oi) (hsel : ∀ (j : Nat) (o : Oper) cs b, ops[j]? = some o → o.op ≠ .select cs b)
    (hE : orderT ops kd = true) : ∀ (fuel : Nat) (listed : Array Bool) (a : Act) (w w2 : World), Shut ops listed →
      (∀ j oj, ops[j]? = some oj → j ≠ i → listed.getD j true = false → (∀ e ∈ oj.after, Region.binds .any e = true → e.on ≠ i) → oi.apart ops oj = true) →
      i ∈ Region.ready .any ops listed → YS P ops R C (kd i) oi a w v w2 →
      wpS P ops R C kd Q fuel (listed.setIfInBounds i true) (a.put oi.dst v) w2 → wpS P ops R C kd Q (fuel + 1) listed a w := by
  intro fuel
  induction fuel with
  | zero =>
    intro listed a w w2 _ _ hr hy H
    refine ⟨fun h => (by rw [h] at hr; cases hr), fun j hj => ?_⟩
    by_cases hji : j = i
    · subst hji
      unfold stepS
      simp only [hi]
      exact ⟨v, w2, hy, H⟩
    · have := ready_mono hj hji
      rw [H.1] at this
      cases this
  | succ fuel ih =>
    intro listed a w w2 hS hfree hr hy H
    refine ⟨fun h => (by rw [h] at hr; cases hr), fun j hj => ?_⟩
    by_cases hji : j = i
    · subst hji
      unfold stepS
      simp only [hi]
      exact ⟨v, w2, hy, H⟩
    · have hiun := (mem_ready.1 hr).1
      have h1 := H.2 j (ready_mono hj hji)
      obtain ⟨hjun, oj, hoj, hall⟩ := mem_ready.1 hj
      have hnot : ∀ e ∈ oj.after, Region.binds .any e = true → e.on ≠ i := fun e he hb heq => by
        have h2 := hall e he hb
        rw [heq] at h2
        rcases Nat.lt_or_ge i listed.size with h' | h'
        · simp [h'] at hiun h2; rw [hiun] at h2; cases h2
        · simp [Array.getElem?_eq_none h'] at h2
      obtain ⟨p1, p2, p3⟩ := Oper.apart_spec (hfree j oj hoj hji hjun hnot)
      unfold stepS at h1 ⊢
      simp only [hoj] at h1 ⊢
      obtain ⟨u, w3, hyj, hK⟩ := h1
      rw [YS_put v (fun cs b => hsel j oj cs b hoj) p1] at hyj
      have hfree' : ∀ k ok, ops[k]? = some ok → k ≠ i → (listed.setIfInBounds j true).getD k true = false →
          (∀ e ∈ ok.after, Region.binds .any e = true → e.on ≠ i) → oi.apart ops ok = true := fun k ok hk hki hun hno => by
        refine hfree k ok hk hki ?_ hno
        by_cases hjk : j = k
        · subst hjk; exact hjun
        · rw [getD_set_ne true hjk] at hun; exact hun
      have hr' := ready_mono hr (Ne.symm hji)
      have hS' := hS.set hj
      rw [Array.setIfInBounds_comm _ _ (Ne.symm hji), Act.put_comm a v u p2] at hK
      by_cases ki : kd i = 0
      · rw [ki] at hy
        obtain ⟨rfl, _⟩ := YS_zero (w3 := w) hy
        refine ⟨u, w3, hyj, ih _ _ w3 w3 hS' hfree' hr' ?_ hK⟩
        rw [ki]
        exact (YS_put u (fun cs b => hsel i oi cs b hi) p3).2 (YS_zero hy).2
      · by_cases kj : kd j = 0
        · rw [kj] at hyj
          obtain ⟨rfl, _⟩ := YS_zero (w3 := w) hyj
          refine ⟨u, w, by rw [kj]; exact (YS_zero hyj).2, ih _ _ w w3 hS' hfree' hr' ?_ hK⟩
          exact (YS_put u (fun cs b => hsel i oi cs b hi) p3).2 hy
        · by_cases ki1 : kd i = 1
          · by_cases kj1 : kd j = 1
            · rw [ki1] at hy
              rw [kj1] at hyj
              obtain rfl := YS_one hy
              obtain rfl := YS_one hyj
              refine ⟨u, w3, by rw [kj1]; exact hyj, ih _ _ w3 w3 hS' hfree' hr' ?_ hK⟩
              rw [ki1]
              exact (YS_put u (fun cs b => hsel i oi cs b hi) p3).2 hy
            · rcases orderT_spec hE hoj hi kj kj1 ki (Ne.symm hji) with h | h
              · exact (not_bothT hS hiun hj h).elim
              · exact (not_bothT hS hjun hr h).elim
          · rcases orderT_spec hE hi hoj ki ki1 kj hji with h | h
            · exact (not_bothT hS hjun hr h).elim
            · exact (not_bothT hS hiun hj h).elim

theorem wpS_lexT {kd : Nat → Nat} {Q : Act → World → Prop} (hs : Region.noSelect ops = true) (hE : orderT ops kd = true) : ∀ (l : List Oper) (k : Nat) (listed : Array Bool) (a : Act) (w : World), Shut ops listed → (∀ j, l[j]? = ops[k + j]?) →
    Region.lexFrom .any ops l.length k listed = true → flowS P ops R C kd Q k l a w → wpS P ops R C kd Q l.length listed a w
  | [], _, _, _, _, _, _, hB, h => ⟨by simpa [Region.lexFrom] using hB, h⟩
  | o :: l, k, listed, a, w, hS, hl, hB, h => by
    have h0 : ops[k]? = some o := by simpa using (hl 0).symm
    simp only [List.length_cons, Region.lexFrom, Bool.and_eq_true] at hB
    obtain ⟨⟨hr, hf⟩, hB'⟩ := hB
    obtain ⟨v, w2, hy, hK⟩ := h
    have hr' : k ∈ Region.ready .any ops listed := by simpa using hr
    exact wpS_firstT h0 (Region.noSelect_spec hs) hE l.length listed a w w2 hS (Region.free_spec h0 hf) hr' hy
      (wpS_lexT hs hE l (k + 1) _ _ w2 (hS.set hr') (fun j => by have := hl (j + 1); simpa [Nat.add_assoc, Nat.add_comm 1 j] using this) hB' hK)

/-- What closes waits, through others too, for each operation of kind 0. -/
def closeT (ops : Array Oper) (kd : Nat → Nat) : Bool :=
  (List.range ops.size).all fun e => kd e != 4 || (List.range ops.size).all fun j => kd j != 0 || waitsT ops ops.size e j

theorem closeT_spec {kd : Nat → Nat} (h : closeT ops kd = true) {e j : Nat} {oe oj : Oper} (he : ops[e]? = some oe) (hj' : ops[j]? = some oj) (h4 : kd e = 4) (h0 : kd j = 0) : waitsT ops ops.size e j = true := by
  have hes : e < ops.size := (Array.getElem?_eq_some_iff.1 he).1
  have hjs : j < ops.size := (Array.getElem?_eq_some_iff.1 hj').1
  have a1 := List.all_eq_true.1 h e (List.mem_range.2 hes)
  simp only [Bool.or_eq_true, bne_iff_ne, ne_eq, h4, not_true_eq_false, false_or] at a1
  have a2 := List.all_eq_true.1 a1 j (List.mem_range.2 hjs)
  simpa [h0] using a2

theorem wpAnyIn_of_wpST {r : Option Nat} {n : Nat} {kd : Nat → Nat} {Q : Act → World → Prop} {Q' : Exit → Act → World → Prop} (hd : noDeferB ops = true) (hcl : closeT ops kd = true) (hQ : ∀ a w, Q a w → ∀ w', R w w' → Q' .normal a w') :
    ∀ (fuel : Nat) (listed : Array Bool) (a : Act) (w : World), Shut ops listed → wpS P ops R C kd Q fuel listed a w → (pends ops kd listed → C w) → ∀ w', R w w' → wpAnyIn (FW r) n P .any ops Q' fuel listed a w'
  | 0, _, a, w, _, h, _, w', hw => ⟨h.1, hQ a w h.2 w' hw⟩
  | fuel + 1, listed, a, w, hS, h, hC, w', hw => by
    refine ⟨fun h0 => hQ a w (h.1 h0) w' hw, fun i hi => ?_⟩
    have hs := h.2 i hi
    have ih := fun a2 w2 hk => wpAnyIn_of_wpST (r := r) (n := n) (kd := kd) hd hcl hQ fuel (listed.setIfInBounds i true) a2 w2 (hS.set hi) hk
    unfold stepS at hs
    unfold wpOpIn
    cases ho : ops[i]? with
    | none =>
      simp only [ho] at hs ⊢
      exact ih _ _ hs (fun hp => hC (pends_less hp)) _ hw
    | some o =>
      simp only [ho] at hs ⊢
      obtain ⟨v, w2, hy, hK⟩ := hs
      have hsem : Oper.semAt (FW r).round a.eval o = execOp a.eval o := Oper.semAt_eq _ _ _ fun c => noDefer_spec hd i o c ho
      rcases hy with ⟨hwd, h0, _, hk4, h1⟩ | ⟨hwd, hv, he⟩
      · rw [if_pos hwd]
        have hC2 : pends ops kd (listed.setIfInBounds i true) → C w2 := fun hp => by
          by_cases h4 : kd i = 4
          · obtain ⟨j, oj, hj1, hj2, hj3⟩ := pends_less hp
            exact (not_bothT hS hj3 hi (closeT_spec hcl ho hj1 h4 hj2)).elim
          · exact hk4 h4 (hC (pends_less hp))
        refine ⟨about_FW _ _ _ _, ?_⟩
        rw [hsem]
        by_cases hk : kd i = 0
        · obtain ⟨rfl, h2⟩ := h0 hk
          rw [h2 _ w' (hC ⟨i, o, ho, hk, (mem_ready.1 hi).1⟩) hw]
          exact ih _ _ hK hC2 _ hw
        · have h2 := h1 hk w' hw
          unfold leftBy at h2
          split at h2
          · rename_i u w'' heq
            rw [heq]
            obtain ⟨rfl, h3⟩ := h2
            exact ih _ _ hK hC2 _ h3
          · rename_i w'' heq
            rw [heq]
            obtain ⟨rfl, h3⟩ := h2
            exact ih _ _ hK hC2 _ h3
          · rename_i f args w'' heq
            rw [heq]
            refine ⟨fun h => by simp [FW] at h, callsIn_FW (h2.mono ?_)⟩
            rintro e w3 ⟨rfl, h3⟩
            exact ih _ _ hK hC2 _ h3
          · exact h2.elim
      · rw [if_neg (by simp [hwd])]
        subst hv
        subst he
        exact ⟨about_FW _ _ _ _, ih _ _ hK (fun hp => hC (pends_less hp)) _ hw⟩

/-- **One walk in the order of the text serves every order**, also where calls make memory and where the last operations store. -/
theorem wpIn_flowST {r : Option Nat} {n id : Nat} {Q : Exit → Act → World → Prop} {a : Act} {w : World} {l : List Oper} (kd : Nat → Nat) (R : World → World → Prop) (C : World → Prop) (w1 : World) (h0 : R w1 w.drew) (h00 : C w1) (hm : P.follows .mixedOrders = true)
    (hB : (Region.lexB .any l.toArray && orderT l.toArray kd && noDeferB l.toArray && closeT l.toArray kd) = true) (h : flowS P l.toArray R C kd (fun a' w2 => ∀ w', R w2 w' → Q .normal a' w') 0 l a w1) : (Code.region id l.toArray true).wpIn (FW r) n P Q a w := by
  simp only [Bool.and_eq_true] at hB
  obtain ⟨⟨⟨hB, hE⟩, hd⟩, hcl⟩ := hB
  simp only [Region.lexB, Bool.and_eq_true] at hB
  refine wpIn_region_any hm ?_
  have H := wpS_lexT (P := P) (R := R) (kd := kd) hB.1 hE l 0 (Array.replicate l.toArray.size false) a w1 (Shut.none _) (by simp) (by simpa using hB.2) h
  have := wpAnyIn_of_wpST (r := r) (n := n) (Q' := Q) hd hcl (fun a' w2 hq w' hw => hq w' hw) _ _ _ _ (Shut.none _) H (fun _ => h00) w.drew h0
  simpa using this

theorem wp_flowST {id : Nat} {Q : Exit → Act → World → Prop} {a : Act} {w : World} {l : List Oper} (kd : Nat → Nat) (R : World → World → Prop) (C : World → Prop) (w1 : World) (h0 : R w1 w.drew) (h00 : C w1) (hm : P.follows .mixedOrders = true)
    (hB : (Region.lexB .any l.toArray && orderT l.toArray kd && noDeferB l.toArray && closeT l.toArray kd) = true) (h : flowS P l.toArray R C kd (fun a' w2 => ∀ w', R w2 w' → Q .normal a' w') 0 l a w1) : (Code.region id l.toArray true).wp P Q a w :=
  wpIn_wide.1 (show (Code.region id l.toArray true).wpIn Fence.wide 0 P Q a w from wpIn_flowST (r := none) kd R C w1 h0 h00 hm hB h)

end flow6
end Go.Proofs.YtcdjdnbdblpofaaDoor
