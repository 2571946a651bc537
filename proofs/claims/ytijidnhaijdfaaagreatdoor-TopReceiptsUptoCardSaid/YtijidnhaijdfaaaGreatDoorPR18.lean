/-
  Tries by definition: the node of leaves; a path finds its leaf's value, and nothing else. Conditions: leaves in order, whose paths are of one length.
-/
import Derived.Test.YtijidnhaijdfaaaGreatDoorPR9
namespace Go.Proofs.YtijidnhaijdfaaaGreatDoor
set_option linter.unusedVariables false

abbrev Lf := Bs × Bs
/-- Below, half byte by half byte. -/
def lexB : Bs → Bs → Prop
  | a :: s, b :: t => a.toNat < b.toNat ∨ (a = b ∧ lexB s t)
  | [], _ :: _ => True
  | _, [] => False
/-- How many leaves ahead begin with h. -/
def run (h : UInt8) : List Lf → Nat
  | [] => 0
  | x :: l => if x.1.head? = some h then run h l + 1 else 0
def tails (n : Nat) (l : List Lf) : List Lf := l.map fun x => (x.1.drop n, x.2)
def kids (g : List Lf → Nd) : Nat → List Lf → Cs
  | 0, _ => .nil
  | k + 1, l => match l with
    | [] => .nil
    | x :: _ => match x.1 with
      | [] => .nil
      | h :: _ => .cons h (g (tails 1 (l.take (run h l)))) (kids g k (l.drop (run h l)))
/-- The node of leaves. -/
def grow : Nat → List Lf → Nd
  | 0, _ => .leaf [] []
  | f + 1, l => match l with
    | [] => .leaf [] []
    | [x] => .leaf x.1 x.2
    | x :: y :: l' => match common x.1 ((y :: l').getLast (by simp)).1 with
      | 0 => .branch (kids (grow f) (x :: y :: l').length (x :: y :: l'))
      | n + 1 => .ext (x.1.take (n + 1)) (grow f (tails (n + 1) (x :: y :: l')))
def rightL (n : Nat) (x : Lf) : Prop := x.1.length = n ∧ nib x.1 ∧ x.2 ≠ [] ∧ x.2.length ≤ 1000
def good (n : Nat) (L : List Lf) : Prop := (∀ x ∈ L, rightL n x) ∧ L.Pairwise fun a b => lexB a.1 b.1
/-- What a path ought to find. -/
def finds (r : Bs → Bs) (n : Nat) (L : List Lf) : Prop := ∀ k : Bs, k.length = n → (∀ v, (k, v) ∈ L → r k = v) ∧ ((∀ v, (k, v) ∉ L) → r k = [])
theorem lexB_irrefl : ∀ s : Bs, ¬ lexB s s
  | [], h => h
  | a :: s, h => by
    rcases h with h | ⟨_, h⟩
    · omega
    · exact lexB_irrefl s h
theorem lexB_mid : ∀ (c : Nat) {s u t : Bs}, lexB s u → lexB u t → s.take c = t.take c → c ≤ s.length → c ≤ u.length → c ≤ t.length → u.take c = s.take c
  | 0, s, u, t, _, _, _, _, _, _ => by simp
  | c + 1, a :: s, b :: u, d :: t, h1, h2, h, k1, k2, k3 => by
    rw [List.take_succ_cons, List.take_succ_cons] at h
    injection h with e h
    subst e
    simp only [List.length_cons] at k1 k2 k3
    have hba : b = a := by
      rcases h1 with h1 | ⟨h1, _⟩
      · rcases h2 with h2 | ⟨h2, _⟩
        · omega
        · exact h2
      · exact h1.symm
    subst hba
    have h1' : lexB s u := by
      rcases h1 with h1 | ⟨_, h1⟩
      · omega
      · exact h1
    have h2' : lexB u t := by
      rcases h2 with h2 | ⟨_, h2⟩
      · omega
      · exact h2
    rw [List.take_succ_cons, List.take_succ_cons, lexB_mid c h1' h2' h (by omega) (by omega) (by omega)]
  | c + 1, [], u, t, h1, h2, h, k1, k2, k3 => by simp at k1
  | c + 1, a :: s, [], t, h1, h2, h, k1, k2, k3 => by simp at k2
  | c + 1, a :: s, b :: u, [], h1, h2, h, k1, k2, k3 => by simp at k3
theorem lexB_drop : ∀ (c : Nat) {s t : Bs}, lexB s t → s.take c = t.take c → lexB (s.drop c) (t.drop c)
  | 0, s, t, h, _ => h
  | c + 1, a :: s, b :: t, h, e => by
    rw [List.take_succ_cons, List.take_succ_cons] at e
    injection e with e1 e2
    subst e1
    rcases h with h | ⟨_, h⟩
    · omega
    · exact lexB_drop c h e2
  | c + 1, [], [], h, e => h.elim
  | c + 1, [], b :: t, h, e => by simp at e
  | c + 1, a :: s, [], h, e => by simp at e
theorem good.nil (n : Nat) : good n [] := ⟨fun x h => (by cases h), List.Pairwise.nil⟩
theorem good.take {n : Nat} {L : List Lf} (h : good n L) (k : Nat) : good n (L.take k) := ⟨fun x hx => h.1 x (List.mem_of_mem_take hx), h.2.sublist (List.take_sublist _ _)⟩
theorem good.drop {n : Nat} {L : List Lf} (h : good n L) (k : Nat) : good n (L.drop k) := ⟨fun x hx => h.1 x (List.mem_of_mem_drop hx), h.2.sublist (List.drop_sublist _ _)⟩
/-- Leaves that share c half bytes, without them. -/
theorem good.tails {n c : Nat} {L : List Lf} (h : good n L) (p : Bs) (hp : ∀ x ∈ L, x.1.take c = p) : good (n - c) (tails c L) := by
  refine ⟨fun x hx => ?_, ?_⟩
  · obtain ⟨y, hy, rfl⟩ := List.mem_map.1 hx
    obtain ⟨h1, h2, h3, h4⟩ := h.1 y hy
    exact ⟨by rw [List.length_drop, h1], h2.drop c, h3, h4⟩
  · unfold Go.Proofs.YtijidnhaijdfaaaGreatDoor.tails
    rw [List.pairwise_map]
    refine h.2.imp_of_mem fun ha hb hab => lexB_drop c hab ?_
    rw [hp _ ha, hp _ hb]
theorem mem_tails {c : Nat} {L : List Lf} {p : Bs} (hp : ∀ x ∈ L, x.1.take c = p) {k v : Bs} (hk : k.take c = p) : (k.drop c, v) ∈ tails c L ↔ (k, v) ∈ L := by
  unfold tails
  rw [List.mem_map]
  constructor
  · rintro ⟨⟨a, b⟩, hy, e⟩
    injection e with e1 e2
    have : a = k := by
      rw [← List.take_append_drop c a, ← List.take_append_drop c k, e1, hk]
      exact congrArg (· ++ k.drop c) (hp _ hy)
    subst this
    subst e2
    exact hy
  · intro h
    exact ⟨(k, v), h, rfl⟩
theorem share {n : Nat} {x y : Lf} {l : List Lf} (h : good n (x :: y :: l)) : ∀ z ∈ x :: y :: l, z.1.take (common x.1 ((y :: l).getLast (by simp)).1) = x.1.take (common x.1 ((y :: l).getLast (by simp)).1) := by
  have hlast : (y :: l).getLast (by simp) ∈ y :: l := List.getLast_mem (by simp)
  generalize hz : (y :: l).getLast (by simp) = w at *
  have ht := common_take x.1 w.1
  have hc := common_le x.1 w.1
  generalize common x.1 w.1 = c at *
  intro z hzm
  have hlen : ∀ z ∈ x :: y :: l, c ≤ z.1.length := fun z hm => by
    rw [(h.1 z hm).1, ← (h.1 x (List.mem_cons_self ..)).1]
    exact hc.1
  rcases List.mem_cons.1 hzm with rfl | hzm'
  · rfl
  · have h1 : lexB x.1 z.1 := (List.pairwise_cons.1 h.2).1 z hzm'
    have h2 : z = w ∨ lexB z.1 w.1 := by
      have hp := (List.pairwise_cons.1 h.2).2
      have e : y :: l = (y :: l).dropLast ++ [w] := by rw [← hz, List.dropLast_concat_getLast]
      rw [e] at hp hzm'
      rcases List.mem_append.1 hzm' with hm | hm
      · exact .inr ((List.pairwise_append.1 hp).2.2 z hm w (List.mem_cons_self ..))
      · exact .inl (by simpa using hm)
    rcases h2 with rfl | h2
    · exact ht.symm
    · exact lexB_mid c h1 h2 ht (hlen x (List.mem_cons_self ..)) (hlen z hzm) (hlen w (List.mem_cons_of_mem _ hlast))
theorem run_le (h : UInt8) : ∀ L : List Lf, run h L ≤ L.length
  | [] => Nat.le_refl _
  | x :: l => by
    have := run_le h l
    rw [run, List.length_cons]
    split <;> omega
theorem run_pos {h : UInt8} {x : Lf} {l : List Lf} (e : x.1.head? = some h) : 0 < run h (x :: l) := by
  rw [run, if_pos e]
  omega
theorem run_take (h : UInt8) : ∀ (L : List Lf), ∀ x ∈ L.take (run h L), x.1.head? = some h
  | [], x, hx => by cases hx
  | y :: l, x, hx => by
    rw [run] at hx
    split at hx
    · rename_i e
      rw [List.take_succ_cons] at hx
      rcases List.mem_cons.1 hx with rfl | hx
      · exact e
      · exact run_take h l x hx
    · cases hx
theorem run_drop {n : Nat} (h : UInt8) : ∀ (L : List Lf), good (n + 1) L → (∀ x ∈ L, ∀ a t, x.1 = a :: t → h.toNat ≤ a.toNat) → ∀ x ∈ L.drop (run h L), ∀ a t, x.1 = a :: t → h.toNat < a.toNat
  | [], _, _, x, hx => by cases hx
  | y :: l, hg, hle, x, hx => by
    intro a t hxa
    obtain ⟨b, u, hy⟩ : ∃ b u, y.1 = b :: u := by
      have := (hg.1 y (List.mem_cons_self ..)).1
      cases hq : y.1 with
      | nil => rw [hq] at this; simp at this
      | cons b u => exact ⟨b, u, rfl⟩
    rw [run] at hx
    split at hx
    · rw [List.drop_succ_cons] at hx
      exact run_drop h l ⟨fun z hz => hg.1 z (List.mem_cons_of_mem _ hz), (List.pairwise_cons.1 hg.2).2⟩ (fun z hz => hle z (List.mem_cons_of_mem _ hz)) x hx a t hxa
    · rename_i e
      rw [List.drop_zero] at hx
      have hb : h.toNat < b.toNat := by
        have h1 := hle y (List.mem_cons_self ..) b u hy
        rcases Nat.lt_or_ge h.toNat b.toNat with h2 | h2
        · exact h2
        · exact absurd (by rw [hy, UInt8.toNat_inj.1 (show h.toNat = b.toNat by omega)]; rfl) e
      rcases List.mem_cons.1 hx with rfl | hx
      · rw [hy] at hxa
        injection hxa with e1 _
        subst e1
        exact hb
      · have := (List.pairwise_cons.1 hg.2).1 x hx
        rw [hy, hxa] at this
        rcases this with h3 | ⟨h3, _⟩
        · omega
        · subst h3
          exact hb
def Cs.heads : Cs → List UInt8
  | .nil => []
  | .cons h _ l => h :: l.heads
/-- The heads stand in order. -/
def upC : Cs → Prop
  | .nil => True
  | .cons h _ l => (∀ x ∈ l.heads, h.toNat < x.toNat) ∧ upC l
theorem kids_spec {n : Nat} {g : List Lf → Nd} (hgr : ∀ M, good n M → M ≠ [] → ok n (g M) ∧ finds (res (g M)) n M) : ∀ (m : Nat) (L : List Lf), L.length ≤ m → good (n + 1) L →
    oks n (kids g m L) ∧ upC (kids g m L) ∧ (∀ x ∈ (kids g m L).heads, ∃ z ∈ L, z.1.head? = some x) ∧ ∀ h t, t.length = n → (∀ v, (h :: t, v) ∈ L → resC (kids g m L) h t = v) ∧ ((∀ v, (h :: t, v) ∉ L) → resC (kids g m L) h t = []) := by
  intro m
  induction m with
  | zero =>
    intro L hm hg
    have : L = [] := List.eq_nil_of_length_eq_zero (by omega)
    subst this
    refine ⟨by rw [kids, oks]; trivial, by rw [kids, upC]; trivial, fun x hx => (by rw [kids, Cs.heads] at hx; cases hx), fun h t ht => ⟨fun v hv => (by cases hv), fun _ => by rw [kids, resC]⟩⟩
  | succ m ih =>
    intro L hm hg
    cases hL : L with
    | nil => exact ⟨by rw [kids, oks]; trivial, by rw [kids, upC]; trivial, fun x hx => (by rw [kids, Cs.heads] at hx; cases hx), fun h t ht => ⟨fun v hv => (by cases hv), fun _ => by rw [kids, resC]⟩⟩
    | cons x l =>
      obtain ⟨b, u, hx⟩ : ∃ b u, x.1 = b :: u := by
        have := (hg.1 x (by rw [hL]; exact List.mem_cons_self ..)).1
        cases hq : x.1 with
        | nil => rw [hq] at this; simp at this
        | cons b u => exact ⟨b, u, rfl⟩
      rw [← hL]
      have hk : kids g (m + 1) L = .cons b (g (tails 1 (L.take (run b L)))) (kids g m (L.drop (run b L))) := by
        rw [hL, kids]
        simp only [hx]
      have hrp : 0 < run b L := by rw [hL]; exact run_pos (by rw [hx]; rfl)
      have hrl := run_le b L
      have htk := run_take b L
      have hle : ∀ z ∈ L, ∀ a t, z.1 = a :: t → b.toNat ≤ a.toNat := by
        intro z hz a t hza
        rw [hL] at hz hg
        rcases List.mem_cons.1 hz with rfl | hz
        · rw [hx] at hza
          injection hza with e _
          rw [e]
          exact Nat.le_refl _
        · have := (List.pairwise_cons.1 hg.2).1 z hz
          rw [hx, hza] at this
          rcases this with h3 | ⟨h3, _⟩
          · omega
          · rw [h3]
            exact Nat.le_refl _
      have hdr := run_drop b L hg hle
      have hp : ∀ z ∈ L.take (run b L), z.1.take 1 = [b] := by
        intro z hz
        have := htk z hz
        cases hq : z.1 with
        | nil => rw [hq] at this; simp at this
        | cons a t =>
          rw [hq] at this
          have : a = b := by simpa using this
          rw [this]
          rfl
      have g1 := (hg.take (run b L)).tails [b] hp
      rw [show n + 1 - 1 = n by omega] at g1
      have hne : tails 1 (L.take (run b L)) ≠ [] := by
        intro e
        have := congrArg List.length e
        rw [Go.Proofs.YtijidnhaijdfaaaGreatDoor.tails, List.length_map, List.length_take, List.length_nil] at this
        omega
      obtain ⟨o1, f1⟩ := hgr _ g1 hne
      obtain ⟨o2, u2, h2, f2⟩ := ih (L.drop (run b L)) (by rw [List.length_drop]; omega) (hg.drop _)
      have hb16 : b.toNat < 16 := (hg.1 x (by rw [hL]; exact List.mem_cons_self ..)).2.1 b (by rw [hx]; exact List.mem_cons_self ..)
      rw [hk]
      refine ⟨by rw [oks]; exact ⟨hb16, o1, o2⟩, ?_, ?_, ?_⟩
      · rw [upC]
        refine ⟨fun y hy => ?_, u2⟩
        obtain ⟨z, hz, hzh⟩ := h2 y hy
        cases hq : z.1 with
        | nil => rw [hq] at hzh; simp at hzh
        | cons a t =>
          have := hdr z hz a t hq
          rw [hq] at hzh
          have : a = y := by simpa using hzh
          subst this
          assumption
      · intro y hy
        rw [Cs.heads] at hy
        rcases List.mem_cons.1 hy with rfl | hy
        · exact ⟨x, by rw [hL]; exact List.mem_cons_self .., by rw [hx]; rfl⟩
        · obtain ⟨z, hz, hzh⟩ := h2 y hy
          exact ⟨z, List.mem_of_mem_drop hz, hzh⟩
      · intro h t ht
        rw [resC]
        have hsplit : ∀ v, (h :: t, v) ∈ L ↔ (h :: t, v) ∈ L.take (run b L) ∨ (h :: t, v) ∈ L.drop (run b L) := fun v => by
          conv => lhs; rw [← List.take_append_drop (run b L) L]
          exact List.mem_append
        by_cases e : b = h
        · subst e
          rw [if_pos rfl]
          have hmt : ∀ v, (t, v) ∈ tails 1 (L.take (run b L)) ↔ (b :: t, v) ∈ L.take (run b L) := fun v => mem_tails (k := b :: t) hp rfl
          have hnd : ∀ v, (b :: t, v) ∉ L.drop (run b L) := fun v hv => by
            have := hdr _ hv b t rfl
            omega
          obtain ⟨f1a, f1b⟩ := f1 t ht
          refine ⟨fun v hv => f1a v ((hmt v).2 ?_), fun hv => f1b fun v hv2 => hv v ((hsplit v).2 (.inl ((hmt v).1 hv2)))⟩
          rcases (hsplit v).1 hv with hv | hv
          · exact hv
          · exact absurd hv (hnd v)
        · rw [if_neg e]
          have hnt : ∀ v, (h :: t, v) ∉ L.take (run b L) := fun v hv => by
            have := htk _ hv
            exact e (by simpa using this.symm)
          obtain ⟨f2a, f2b⟩ := f2 h t ht
          refine ⟨fun v hv => f2a v ?_, fun hv => f2b fun v hv2 => hv v ((hsplit v).2 (.inr hv2))⟩
          rcases (hsplit v).1 hv with hv | hv
          · exact absurd hv (hnt v)
          · exact hv
theorem good_two {n : Nat} {x y : Lf} {l : List Lf} (h : good n (x :: y :: l)) : 0 < n := by
  rcases Nat.eq_zero_or_pos n with rfl | h0
  · have h1 := (List.pairwise_cons.1 h.2).1 y (List.mem_cons_self ..)
    have e1 := List.eq_nil_of_length_eq_zero (h.1 x (List.mem_cons_self ..)).1
    have e2 := List.eq_nil_of_length_eq_zero (h.1 y (List.mem_cons_of_mem _ (List.mem_cons_self ..))).1
    rw [e1, e2] at h1
    exact h1.elim
  · exact h0
theorem getLast_tails {c : Nat} {x y : Lf} {l : List Lf} : ((tails c (y :: l)).getLast (by simp [tails])).1 = ((y :: l).getLast (by simp)).1.drop c := by
  unfold tails
  rw [List.getLast_map]
theorem grow_spec : ∀ (f n : Nat) (L : List Lf), n < f → good n L → L ≠ [] → ok n (grow f L) ∧ finds (res (grow f L)) n L := by
  intro f
  induction f with
  | zero => intro n L h; omega
  | succ f ih =>
    intro n L hnf hg hne
    match L, hg, hne with
    | [x], hg, _ =>
      obtain ⟨h1, h2, h3, h4⟩ := hg.1 x (List.mem_cons_self ..)
      rw [grow]
      refine ⟨by rw [ok]; exact ⟨h1, h2, h3, h4⟩, fun k hk => ⟨fun v hv => ?_, fun hv => ?_⟩⟩
      · rw [List.mem_singleton] at hv
        rw [res, if_pos (by rw [← hv]), ← hv]
      · rw [res]
        split
        · rename_i e
          subst e
          exact absurd (List.mem_singleton.2 rfl) (hv x.2)
        · rfl
    | x :: y :: l, hg, _ =>
      have hn0 := good_two hg
      have hsh := share hg
      have hcl := (common_le x.1 ((y :: l).getLast (by simp)).1).1
      have hcd := common_drop x.1 ((y :: l).getLast (by simp)).1
      have hx1 := (hg.1 x (List.mem_cons_self ..)).1
      rw [grow]
      generalize hc : common x.1 ((y :: l).getLast (by simp)).1 = c at *
      cases c with
      | zero =>
        simp only
        obtain ⟨m, rfl⟩ : ∃ m, n = m + 1 := ⟨n - 1, by omega⟩
        obtain ⟨h1, _, _, h2⟩ := kids_spec (g := grow f) (fun M hM hM0 => ih m M (by omega) hM hM0) _ (x :: y :: l) (Nat.le_refl _) hg
        refine ⟨by rw [ok]; exact ⟨hn0, h1⟩, fun k hk => ?_⟩
        cases k with
        | nil => simp at hk
        | cons h t =>
          rw [res]
          exact h2 h t (by simpa using hk)
      | succ c =>
        simp only
        have g1 := hg.tails _ hsh
        obtain ⟨o1, f1⟩ := ih (n - (c + 1)) (tails (c + 1) (x :: y :: l)) (by omega) g1 (by simp [tails])
        have hpl : (x.1.take (c + 1)).length = c + 1 := by rw [List.length_take]; omega
        have hB : isB (grow f (tails (c + 1) (x :: y :: l))) := by
          obtain ⟨f', rfl⟩ : ∃ f', f = f' + 1 := ⟨f - 1, by omega⟩
          show isB (grow (f' + 1) ((x.1.drop (c + 1), x.2) :: (y.1.drop (c + 1), y.2) :: l.map fun x => (x.1.drop (c + 1), x.2)))
          rw [grow]
          have e : common (x.1.drop (c + 1)) (((y.1.drop (c + 1), y.2) :: l.map fun x => (x.1.drop (c + 1), x.2)).getLast (by simp)).1 = 0 := by
            have := getLast_tails (c := c + 1) (x := x) (y := y) (l := l)
            have e2 : (((y.1.drop (c + 1), y.2) :: l.map fun x => (x.1.drop (c + 1), x.2)).getLast (by simp)).1 = ((y :: l).getLast (by simp)).1.drop (c + 1) := this
            rw [e2]
            exact hcd
          simp only [e]
          trivial
        refine ⟨?_, fun k hk => ?_⟩
        · rw [ok, hpl]
          exact ⟨fun e => by rw [e] at hpl; simp at hpl, (hg.1 x (List.mem_cons_self ..)).2.1.take _, by omega, hB, o1⟩
        · rw [res, hpl]
          by_cases hkp : k.take (c + 1) = x.1.take (c + 1)
          · have : (x.1.take (c + 1)).isPrefixOf k = true := by
              rw [List.isPrefixOf_iff_prefix, ← hkp]
              exact List.take_prefix _ _
            rw [if_pos this]
            obtain ⟨fa, fb⟩ := f1 (k.drop (c + 1)) (by rw [List.length_drop, hk])
            exact ⟨fun v hv => fa v ((mem_tails hsh hkp).2 hv), fun hv => fb fun v hv2 => hv v ((mem_tails hsh hkp).1 hv2)⟩
          · have : ¬ (x.1.take (c + 1)).isPrefixOf k = true := by
              rw [List.isPrefixOf_iff_prefix]
              intro hp
              have := List.prefix_iff_eq_take.1 hp
              rw [hpl] at this
              exact hkp this.symm
            rw [if_neg this]
            exact ⟨fun v hv => absurd (hsh _ hv) hkp, fun _ => rfl⟩
end Go.Proofs.YtijidnhaijdfaaaGreatDoor
